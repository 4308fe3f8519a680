/-
  Plain laws on where code goes on: numbers in order, each once.
-/
import Derived.Test.YtmlcififmjpcpaaDoorInsE
import Derived.Lib.SlicesCompact
namespace Go.Proofs.YtmlcififmjpcpaaDoor
open Go.RowKit
set_option linter.unusedVariables false
set_option linter.unusedSimpArgs false

/-- In order, each once. -/
def Strict (l : List Int) : Prop := l.Pairwise (· < ·)

theorem strict_ext : ∀ (a b : List Int), Strict a → Strict b → (∀ y, y ∈ a ↔ y ∈ b) → a = b
  | [], [], _, _, _ => rfl
  | [], y :: r, _, _, h => by have := (h y).2 (by simp); simp at this
  | x :: r, [], _, _, h => by have := (h x).1 (by simp); simp at this
  | x :: r, y :: s, ha, hb, h => by
    obtain ⟨ha1, ha2⟩ := List.pairwise_cons.1 ha
    obtain ⟨hb1, hb2⟩ := List.pairwise_cons.1 hb
    have hxy : x = y := by
      have h1 := (h x).1 (by simp)
      have h2 := (h y).2 (by simp)
      rcases List.mem_cons.1 h1 with e | h1
      · exact e
      · rcases List.mem_cons.1 h2 with e | h2
        · exact e.symm
        · have := ha1 y h2
          have := hb1 x h1
          omega
    subst hxy
    congr 1
    refine strict_ext r s ha2 hb2 fun y => ⟨fun hy => ?_, fun hy => ?_⟩
    · have h1 := (h y).1 (List.mem_cons_of_mem _ hy)
      rcases List.mem_cons.1 h1 with e | h1
      · have := ha1 y hy; omega
      · exact h1
    · have h1 := (h y).2 (List.mem_cons_of_mem _ hy)
      rcases List.mem_cons.1 h1 with e | h1
      · have := hb1 y hy; omega
      · exact h1

theorem compact_sorted (zs : List Int) (hs : zs.Pairwise (· ≤ ·)) : Strict (Lib.compact zs) ∧ ∀ y, y ∈ Lib.compact zs ↔ y ∈ zs := by
  have hle : ∀ i j, i < j → j < zs.length → zs.toArray[i]! ≤ zs.toArray[j]! := fun i j hij hj => by
    have := List.pairwise_iff_getElem.1 hs i j (by omega) hj hij
    simpa [getElem!_pos, hj, show i < zs.length by omega] using this
  have key : ∀ m, m ≤ zs.length → Strict (Lib.compactUpTo zs.toArray m) ∧ (∀ y, y ∈ Lib.compactUpTo zs.toArray m ↔ ∃ j, j < m ∧ zs.toArray[j]! = y) := by
    intro m
    induction m with
    | zero => intro _; simp [Lib.compactUpTo, Strict]
    | succ m ih =>
      intro hm
      obtain ⟨h1, h2⟩ := ih (by omega)
      rw [Lib.compactUpTo_succ]
      by_cases hk : Lib.keeps zs.toArray m = true
      · rw [if_pos hk]
        constructor
        · refine List.pairwise_append.2 ⟨h1, by simp, fun a ha b hb => ?_⟩
          simp only [List.mem_singleton] at hb
          subst hb
          obtain ⟨j, hj, rfl⟩ := (h2 a).1 ha
          simp only [Lib.keeps, decide_eq_true_eq] at hk
          have h3 := hle (m - 1) m (by omega) (by omega)
          have h4 : zs.toArray[j]! ≤ zs.toArray[m - 1]! := by
            rcases Nat.lt_or_ge j (m - 1) with h | h
            · exact hle j (m - 1) h (by omega)
            · have : j = m - 1 := by omega
              subst this; exact Int.le_refl _
          rcases hk with hk | hk
          · omega
          · omega
        · intro y
          rw [List.mem_append, h2]
          simp only [List.mem_singleton]
          constructor
          · rintro (⟨j, hj, rfl⟩ | rfl)
            · exact ⟨j, by omega, rfl⟩
            · exact ⟨m, by omega, rfl⟩
          · rintro ⟨j, hj, rfl⟩
            rcases Nat.lt_or_ge j m with h | h
            · exact .inl ⟨j, h, rfl⟩
            · have : j = m := by omega
              subst this; exact .inr rfl
      · rw [if_neg hk, List.append_nil]
        refine ⟨h1, fun y => ?_⟩
        rw [h2]
        simp only [Lib.keeps, decide_eq_true_eq, not_or, Decidable.not_not] at hk
        constructor
        · rintro ⟨j, hj, rfl⟩
          exact ⟨j, by omega, rfl⟩
        · rintro ⟨j, hj, rfl⟩
          rcases Nat.lt_or_ge j m with h | h
          · exact ⟨j, h, rfl⟩
          · have : j = m := by omega
            subst this
            exact ⟨j - 1, by omega, hk.2.symm⟩
  obtain ⟨h1, h2⟩ := key zs.length (Nat.le_refl _)
  refine ⟨h1, fun y => ?_⟩
  rw [Lib.compact, h2]
  constructor
  · rintro ⟨j, hj, rfl⟩
    simp [getElem!_pos, hj]
  · intro hy
    obtain ⟨j, hj, rfl⟩ := List.getElem_of_mem hy
    exact ⟨j, hj, by simp [getElem!_pos, hj]⟩

/-- Sorted, and each once. -/
def sortC (xs : List Int) : List Int := Lib.compact (xs.mergeSort fun x y => decide (x ≤ y))
theorem sortC_spec (xs : List Int) : Strict (sortC xs) ∧ ∀ y, y ∈ sortC xs ↔ y ∈ xs := by
  have hs : (xs.mergeSort fun x y => decide (x ≤ y)).Pairwise (· ≤ ·) := by
    have := List.pairwise_mergeSort (le := fun x y : Int => decide (x ≤ y)) (fun a b c h1 h2 => by simp at *; omega) (fun a b => by simp; omega) xs
    exact this.imp (fun h => by simpa using h)
  obtain ⟨h1, h2⟩ := compact_sorted _ hs
  refine ⟨h1, fun y => (h2 y).trans ?_⟩
  exact (List.mergeSort_perm xs _).mem_iff

/-- The document's way: a number more, in its place, if it is not there. -/
def pstep (n : Int) (s : List Int × Bool) (x : Int) : List Int × Bool := if s.2 = false ∧ n < x then (s.1 ++ [n] ++ [x], true) else (s.1 ++ [x], s.2)
def pend (n : Int) (s : List Int × Bool) : List Int := if s.2 then s.1 else s.1 ++ [n]
def putN (l : List Int) (n : Int) : List Int := if n ∈ l then l else pend n (l.foldl (pstep n) ([], false))
def insN (n : Int) : List Int → List Int
  | [] => [n]
  | x :: r => if n < x then n :: x :: r else x :: insN n r
theorem pfold_true (n : Int) : ∀ (l acc : List Int), l.foldl (pstep n) (acc, true) = (acc ++ l, true)
  | [], acc => by simp
  | x :: r, acc => by rw [List.foldl_cons, pstep, if_neg (by simp), pfold_true n r]; simp
theorem pfold_ins (n : Int) : ∀ (l acc : List Int), pend n (l.foldl (pstep n) (acc, false)) = acc ++ insN n l
  | [], acc => by simp [pend, insN]
  | x :: r, acc => by
    rw [List.foldl_cons, pstep, insN]
    by_cases h : n < x
    · rw [if_pos ⟨rfl, h⟩, pfold_true, if_pos h]; simp [pend]
    · rw [if_neg (by simp [h]), pfold_ins n r, if_neg h]; simp
theorem insN_mem (n : Int) : ∀ (l : List Int) (y : Int), y ∈ insN n l ↔ y = n ∨ y ∈ l
  | [], y => by simp [insN]
  | x :: r, y => by
    rw [insN]
    split
    · simp
    · rw [List.mem_cons, insN_mem n r, List.mem_cons]
      constructor
      · rintro (h | h | h) <;> simp [h]
      · rintro (h | h | h) <;> simp [h]
theorem insN_strict (n : Int) : ∀ (l : List Int), Strict l → n ∉ l → Strict (insN n l)
  | [], _, _ => by simp [insN, Strict]
  | x :: r, h, hn => by
    obtain ⟨h1, h2⟩ := List.pairwise_cons.1 h
    simp only [List.mem_cons, not_or] at hn
    rw [insN]
    split
    · rename_i hx
      refine List.pairwise_cons.2 ⟨fun y hy => ?_, h⟩
      rcases List.mem_cons.1 hy with rfl | hy
      · exact hx
      · have := h1 y hy; omega
    · rename_i hx
      refine List.pairwise_cons.2 ⟨fun y hy => ?_, insN_strict n r h2 hn.2⟩
      rcases (insN_mem n r y).1 hy with rfl | hy
      · omega
      · exact h1 y hy
theorem putN_spec (l : List Int) (n : Int) (h : Strict l) : Strict (putN l n) ∧ ∀ y, y ∈ putN l n ↔ y = n ∨ y ∈ l := by
  rw [putN]
  split
  · rename_i hn
    refine ⟨h, fun y => ⟨.inr, ?_⟩⟩
    rintro (rfl | hy)
    · exact hn
    · exact hy
  · rename_i hn
    rw [pfold_ins, List.nil_append]
    exact ⟨insN_strict n l h hn, insN_mem n l⟩

/-- Where code goes on. -/
def goesOn (op a at_ : Int) : List Int :=
  if op = 33 ∨ op = 34 ∨ op = 35 then [] else if op = 22 then [a]
  else if op = 23 ∨ op = 24 then (if a < at_ + 1 then [a, at_ + 1] else if at_ + 1 < a then [at_ + 1, a] else [at_ + 1]) else [at_ + 1]
def nextL (code : List InsD) (at_ : Int) : List Int :=
  if at_ < 0 then [] else match code[at_.toNat]? with | none => [] | some x => if insKnown x.op then goesOn x.op x.a at_ else []
theorem sortC_one (a : Int) : sortC [a] = [a] := by
  obtain ⟨h1, h2⟩ := sortC_spec [a]
  exact strict_ext _ _ h1 (by simp [Strict]) h2
theorem sortC_two (a b : Int) : sortC [b, a] = if a < b then [a, b] else if b < a then [b, a] else [b] := by
  obtain ⟨h1, h2⟩ := sortC_spec [b, a]
  split
  · rename_i h
    refine strict_ext _ _ h1 (by simp [Strict, h]) fun y => (h2 y).trans ?_
    simp [or_comm]
  · split
    · rename_i h
      exact strict_ext _ _ h1 (by simp [Strict, h]) h2
    · have : a = b := by omega
      subst this
      refine strict_ext _ _ h1 (by simp [Strict]) fun y => (h2 y).trans ?_
      simp

def backL (code : List InsD) (at_ : Int) : Bool :=
  if at_ < 0 then false else match code[at_.toNat]? with | none => false | some x => decide (insKind x.op = 7) && decide (x.a ≤ at_)

def usesB (x : InsD) : Bool := decide (1 ≤ insKind x.op) && decide (insKind x.op ≤ 5)
def usedL (code : List InsD) : List Int := (code.filter usesB).map (·.a)
def putAll (code : List InsD) : List Int := code.foldl (fun l x => if usesB x then putN l x.a else l) []
theorem putAll_spec (code : List InsD) : Strict (putAll code) ∧ ∀ y, y ∈ putAll code ↔ y ∈ usedL code := by
  have key : ∀ (c : List InsD) (l : List Int), Strict l → Strict (c.foldl (fun l x => if usesB x then putN l x.a else l) l) ∧ ∀ y, y ∈ c.foldl (fun l x => if usesB x then putN l x.a else l) l ↔ y ∈ l ∨ y ∈ usedL c := by
    intro c
    induction c with
    | nil => intro l h; simp [usedL, h]
    | cons x r ih =>
      intro l h
      rw [List.foldl_cons]
      by_cases hb : usesB x = true
      · rw [if_pos hb]
        obtain ⟨h1, h2⟩ := putN_spec l x.a h
        obtain ⟨h3, h4⟩ := ih _ h1
        refine ⟨h3, fun y => (h4 y).trans ?_⟩
        rw [h2, show usedL (x :: r) = x.a :: usedL r by simp [usedL, List.filter_cons, hb], List.mem_cons]
        constructor
        · rintro ((h | h) | h) <;> simp [h]
        · rintro (h | h | h) <;> simp [h]
      · rw [if_neg hb]
        obtain ⟨h3, h4⟩ := ih _ h
        refine ⟨h3, fun y => (h4 y).trans ?_⟩
        rw [show usedL (x :: r) = usedL r by simp [usedL, List.filter_cons, hb]]
  obtain ⟨h1, h2⟩ := key code [] (by simp [Strict])
  exact ⟨h1, fun y => (h2 y).trans (by simp)⟩
theorem uses_alike (code : List InsD) : sortC (usedL code) = putAll code := by
  obtain ⟨h1, h2⟩ := sortC_spec (usedL code)
  obtain ⟨h3, h4⟩ := putAll_spec code
  exact strict_ext _ _ h1 h3 fun y => (h2 y).trans (h4 y).symm

/-- Whole numbers as cells. -/
def icell (xs : List Int) : List Value := xs.map (.int .i64)
theorem icell_len (xs : List Int) : (icell xs).length = xs.length := by simp [icell]
theorem icell_append (xs ys : List Int) : icell (xs ++ ys) = icell xs ++ icell ys := by simp [icell]
def IntsIn (n : Nat) (W : World) (v : Value) (xs : List Int) : Prop := SliceIn n 1 W v xs.length (icell xs)
end Go.Proofs.YtmlcififmjpcpaaDoor
