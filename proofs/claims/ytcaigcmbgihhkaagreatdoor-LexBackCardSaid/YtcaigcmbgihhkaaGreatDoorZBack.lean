/-
  Words as a source are the same words, in plain Lean.
  strings.Builder over this program (its panic's text is none here: the shelf's layings fall).
  lex.Join: words as a source.
  The law on words, there and back: its walk.
-/
import Derived.Test.YtcaigcmbgihhkaaGreatDoorZTwo
import Derived.Test.YtcaigcmbgihhkaaGreatDoorZRepE
import Derived.Test.YtcaigcmbgihhkaaGreatDoorZMem
import Derived.Test.YtcaigcmbgihhkaaGreatDoorProg
import Derived.Shelf.Strings.Builder1
import Derived.OwnWalk
import Derived.Test.YtcaigcmbgihhkaaGreatDoorShelfC
import Derived.Test.YtcaigcmbgihhkaaGreatDoorZIt
namespace Go.Proofs.YtcaigcmbgihhkaaGreatDoor
open Go Go.RowKit
set_option linter.unusedVariables false
set_option linter.unusedSimpArgs false
def encW (x : WordD) : Bs := if x.kind = 3 then [34] ++ qL x.text ++ [34] else x.text
def joinL (l : List WordD) : Bs := l.flatMap fun x => encW x ++ [32]
def okc (c : UInt8) : Prop := (32 ≤ c.toNat ∧ c.toNat ≤ 126) ∨ c = 10 ∨ c = 9
theorem escL_ok {c e : UInt8} (h : escL c = some e) : okc e := by
  unfold escL at h
  repeat' split at h
  · cases h; exact .inr (.inl rfl)
  · cases h; exact .inr (.inr rfl)
  · rename_i h1
    cases h
    rcases h1 with rfl | rfl
    · exact .inl (by decide)
    · exact .inl (by decide)
  · cases h
theorem textL_ok : ∀ (l acc : Bs) (n : Nat) (t : Bs) (m : Nat), textL l acc n = some (t, m) → (∀ c ∈ acc, okc c) → (∀ c ∈ t, okc c) ∧ t.length ≤ 64
  | [], acc, n, t, m, h, _ => by simp [textL] at h
  | c :: r, acc, n, t, m, h, ha => by
    rw [textL.eq_def] at h
    simp only at h
    split at h
    · split at h
      · rename_i hl
        simp only [Option.some.injEq, Prod.mk.injEq] at h
        obtain ⟨rfl, _⟩ := h
        exact ⟨ha, hl⟩
      · cases h
    · split at h
      · cases h
      · rename_i h2
        split at h
        · cases r with
          | nil => cases h
          | cons d r2 =>
            simp only at h
            split at h
            · cases h
            · rename_i e he
              refine textL_ok r2 _ _ _ _ h (fun x hx => ?_)
              rcases List.mem_append.1 hx with hx | hx
              · exact ha x hx
              · simp at hx; subst hx; exact escL_ok he
        · refine textL_ok r _ _ _ _ h (fun x hx => ?_)
          rcases List.mem_append.1 hx with hx | hx
          · exact ha x hx
          · simp at hx; subst hx; exact .inl (by omega)
theorem u8_of {c : UInt8} {k : Nat} (hk : k < 256) (h : c.toNat = k) : c = UInt8.ofNat k := by
  apply UInt8.toNat_inj.1
  rw [h]
  simp
  omega
theorem textL_q : ∀ (t acc : Bs) (n : Nat) (rest : Bs), (∀ c ∈ t, okc c) → acc.length + t.length ≤ 64 → textL (qL t ++ 34 :: rest) acc n = some (acc ++ t, n + (qL t).length + 1)
  | [], acc, n, rest, _, hl => by
    simp only [qL, List.flatMap_nil, List.nil_append, List.append_nil, List.length_nil, Nat.add_zero] at hl ⊢
    rw [textL.eq_def]
    simp only
    rw [if_pos trivial, if_pos hl]
  | c :: t, acc, n, rest, h, hl => by
    simp only [List.length_cons] at hl
    have hrec := fun n' => textL_q t (acc ++ [c]) n' rest (fun x hx => h x (by simp [hx])) (by simp; omega)
    have happ : acc ++ [c] ++ t = acc ++ c :: t := by simp
    rw [qL_cons]
    unfold qb
    rw [repP0]
    by_cases h1 : c.toNat = 10
    · obtain rfl : c = 10 := u8_of (k := 10) (by decide) h1
      rw [if_pos h1]
      have e : textL ((some [92, 110] : Option Bs).getD [10] ++ qL t ++ 34 :: rest) acc n = textL (qL t ++ 34 :: rest) (acc ++ [10]) (n + 2) := rfl
      rw [e, hrec, happ]
      simp only [Option.some.injEq, Prod.mk.injEq, true_and, List.length_append, Option.getD_some, List.length_cons, List.length_nil]
      omega
    · rw [if_neg h1]
      by_cases h2 : c.toNat = 9
      · obtain rfl : c = 9 := u8_of (k := 9) (by decide) h2
        rw [if_pos h2]
        have e : textL ((some [92, 116] : Option Bs).getD [9] ++ qL t ++ 34 :: rest) acc n = textL (qL t ++ 34 :: rest) (acc ++ [9]) (n + 2) := rfl
        rw [e, hrec, happ]
        simp only [Option.some.injEq, Prod.mk.injEq, true_and, List.length_append, Option.getD_some, List.length_cons, List.length_nil]
        omega
      · rw [if_neg h2]
        by_cases h3 : c.toNat = 34
        · obtain rfl : c = 34 := u8_of (k := 34) (by decide) h3
          rw [if_pos h3]
          have e : textL ((some [92, 34] : Option Bs).getD [34] ++ qL t ++ 34 :: rest) acc n = textL (qL t ++ 34 :: rest) (acc ++ [34]) (n + 2) := rfl
          rw [e, hrec, happ]
          simp only [Option.some.injEq, Prod.mk.injEq, true_and, List.length_append, Option.getD_some, List.length_cons, List.length_nil]
          omega
        · rw [if_neg h3]
          by_cases h4 : c.toNat = 92
          · obtain rfl : c = 92 := u8_of (k := 92) (by decide) h4
            rw [if_pos h4]
            have e : textL ((some [92, 92] : Option Bs).getD [92] ++ qL t ++ 34 :: rest) acc n = textL (qL t ++ 34 :: rest) (acc ++ [92]) (n + 2) := rfl
            rw [e, hrec, happ]
            simp only [Option.some.injEq, Prod.mk.injEq, true_and, List.length_append, Option.getD_some, List.length_cons, List.length_nil]
            omega
          · rw [if_neg h4]
            have hk := h c (by simp)
            have hr : 32 ≤ c.toNat ∧ c.toNat ≤ 126 := by
              rcases hk with hk | rfl | rfl
              · exact hk
              · exact absurd rfl h1
              · exact absurd rfl h2
            have n1 : ¬ c = 34 := fun e => h3 (by rw [e]; rfl)
            have n2 : ¬ c = 92 := fun e => h4 (by rw [e]; rfl)
            have e : textL ((none : Option Bs).getD [c] ++ qL t ++ 34 :: rest) acc n = textL (qL t ++ 34 :: rest) (acc ++ [c]) (n + 1) := by
              show textL (c :: (qL t ++ 34 :: rest)) acc n = _
              rw [textL.eq_def]
              simp only
              rw [if_neg n1, if_neg (by omega), if_neg n2]
            rw [e, hrec, happ]
            simp only [Option.some.injEq, Prod.mk.injEq, true_and, List.length_append, Option.getD_none, List.length_cons, List.length_nil]
            omega
theorem blank0 {c : UInt8} {r : Bs} (h1 : blkB c = false) (h2 : ¬ (c = 47 ∧ r.head? = some 47)) : skipL (c :: r) = c :: r := by
  rw [skipL, blankN, if_neg (by rw [h1]; simp), if_neg h2]
  rfl
theorem part_blk {c : UInt8} (h : partB c = true) : blkB c = false ∧ c ≠ 47 ∧ c ≠ 34 := by
  refine ⟨?_, ?_, ?_⟩
  · cases hb : blkB c with
    | false => rfl
    | true =>
      simp only [blkB, Bool.or_eq_true, beq_iff_eq] at hb
      rcases hb with ((rfl | rfl) | rfl) | rfl <;> revert h <;> decide
  · rintro rfl; revert h; decide
  · rintro rfl; revert h; decide
theorem all_tw (p : UInt8 → Bool) : ∀ (l : Bs), ∀ x ∈ l.takeWhile p, p x = true
  | [], x, hx => by simp at hx
  | c :: r, x, hx => by
    rw [List.takeWhile_cons] at hx
    split at hx
    · rename_i h
      rcases List.mem_cons.1 hx with rfl | hx
      · exact h
      · exact all_tw p r x hx
    · simp at hx
theorem tw_all (p : UInt8 → Bool) : ∀ (l : Bs), (∀ x ∈ l, p x = true) → l.takeWhile p = l
  | [], _ => rfl
  | c :: r, h => by rw [List.takeWhile_cons, if_pos (h c (by simp)), tw_all p r (fun x hx => h x (by simp [hx]))]
theorem word_back {l : Bs} {k : Int} {tx : Bs} {v : Int} {n : Nat} (h : wordL l = some (k, tx, v, n)) (p : Int) (rest : Bs) :
    wordL (encW ⟨k, tx, v, p⟩ ++ 32 :: rest) = some (k, tx, v, (encW ⟨k, tx, v, p⟩).length) ∧ skipL (encW ⟨k, tx, v, p⟩ ++ 32 :: rest) = encW ⟨k, tx, v, p⟩ ++ 32 :: rest ∧ encW ⟨k, tx, v, p⟩ ≠ [] := by
  cases l with
  | nil => simp [wordL] at h
  | cons c r =>
    rw [wordL.eq_def] at h
    simp only at h
    split at h
    · split at h
      · cases h
      · rename_i t' n' ht
        simp only [Option.some.injEq, Prod.mk.injEq] at h
        obtain ⟨rfl, rfl, rfl, rfl⟩ := h
        obtain ⟨h1, h2⟩ := textL_ok _ _ _ _ _ ht (by simp)
        have e : encW ⟨3, t', 0, p⟩ = 34 :: (qL t' ++ [34]) := rfl
        have hq := textL_q t' [] 1 (32 :: rest) h1 (by simpa using h2)
        refine ⟨?_, ?_, by rw [e]; simp⟩
        · rw [e, List.cons_append, wordL.eq_def]
          simp only
          rw [if_pos trivial, List.append_assoc, List.singleton_append, hq]
          simp
          omega
        · rw [e, List.cons_append]
          exact blank0 (by decide) (by simp)
    · rename_i hc34
      split at h
      · rename_i hp
        have hall : ∀ x ∈ (c :: r).takeWhile partB, partB x = true := all_tw partB _
        have htw : ∃ q, (c :: r).takeWhile partB = c :: q := by rw [List.takeWhile_cons, if_pos hp]; exact ⟨_, rfl⟩
        obtain ⟨q, hq⟩ := htw
        rw [hq] at h hall
        have hx : tx = c :: q ∧ n = (c :: q).length ∧ k ≠ 3 := by
          rw [plainL] at h
          split at h
          · split at h
            · cases h
            · simp only [Option.some.injEq, Prod.mk.injEq] at h
              exact ⟨h.2.1.symm, h.2.2.2.symm, by rw [← h.1]; decide⟩
          · split at h
            · split at h
              · simp only [Option.some.injEq, Prod.mk.injEq] at h
                exact ⟨h.2.1.symm, h.2.2.2.symm, by rw [← h.1]; decide⟩
              · simp only [Option.some.injEq, Prod.mk.injEq] at h
                exact ⟨h.2.1.symm, h.2.2.2.symm, by rw [← h.1]; decide⟩
            · cases h
        obtain ⟨rfl, rfl, hk3⟩ := hx
        have e : encW ⟨k, c :: q, v, p⟩ = c :: q := by rw [encW, if_neg hk3]
        obtain ⟨b1, b2, b3⟩ := part_blk hp
        refine ⟨?_, ?_, by rw [e]; simp⟩
        · rw [e, List.cons_append, wordL.eq_def]
          simp only
          rw [if_neg hc34, if_pos hp, ← List.cons_append, takeWhile_app partB 32 (by decide), tw_all partB _ hall]
          exact h
        · rw [e, List.cons_append]
          exact blank0 b1 (fun x => b2 x.1)
      · rw [signL.eq_def] at h
        simp only at h
        split at h
        · rename_i d hd
          simp only [Option.some.injEq, Prod.mk.injEq] at h
          obtain ⟨rfl, rfl, rfl, rfl⟩ := h
          have hm := List.mem_of_find?_eq_some hd
          have e : encW ⟨4, d, 0, p⟩ = d := rfl
          rw [e]
          simp only [doublesL, List.mem_cons, List.not_mem_nil, or_false] at hm
          rcases hm with rfl | rfl | rfl | rfl | rfl | rfl <;> exact ⟨rfl, rfl, by simp⟩
        · split at h
          · rename_i hm
            simp only [Option.some.injEq, Prod.mk.injEq] at h
            obtain ⟨rfl, rfl, rfl, rfl⟩ := h
            have e : encW ⟨4, [c], 0, p⟩ = [c] := rfl
            rw [e]
            simp only [singlesL, List.mem_cons, List.not_mem_nil, or_false] at hm
            rcases hm with rfl | rfl | rfl | rfl | rfl | rfl | rfl | rfl | rfl | rfl | rfl | rfl | rfl | rfl | rfl | rfl | rfl | rfl <;> exact ⟨rfl, rfl, by simp⟩
          · cases h
def IsW (x : WordD) : Prop := ∃ l n, l.length ≤ 16384 ∧ wordL l = some (x.kind, x.text, x.n, n)
theorem Lx_isW (S : Nat) : ∀ (m : Nat) (l : Bs) (acc : List WordD), l.length ≤ 16384 → (∀ x ∈ acc, IsW x) → ∀ x ∈ (lexFrom S m l acc).1, IsW x
  | 0, l, acc, _, ha => ha
  | m + 1, l, acc, hl, ha => by
    rw [lexFrom]
    split
    · exact ha
    · split
      · simp
      · rename_i k t v n hw
        have h3 := skipL_len (l.drop n)
        rw [List.length_drop] at h3
        exact Lx_isW S m _ _ (by omega) (fun x hx => by
          rcases List.mem_append.1 hx with hx | hx
          · exact ha x hx
          · simp at hx; subst hx; exact ⟨l, n, hl, hw⟩)
theorem lexL_isW (src : Bs) : ∀ x ∈ (lexL src).1, IsW x := by
  unfold lexL
  split
  · simp
  · exact Lx_isW _ _ _ _ (by have := skipL_len src; omega) (by simp)
theorem wordL_text {l : Bs} {k : Int} {t : Bs} {v : Int} {n : Nat} (h : wordL l = some (k, t, v, n)) : t.length ≤ l.length + 64 := by
  cases l with
  | nil => simp [wordL] at h
  | cons c r =>
    rw [wordL.eq_def] at h
    simp only at h
    split at h
    · split at h
      · cases h
      · rename_i t' n' ht
        simp only [Option.some.injEq, Prod.mk.injEq] at h
        obtain ⟨rfl, rfl, rfl, rfl⟩ := h
        have := (textL_ok _ _ _ _ _ ht (by simp)).2
        omega
    · split at h
      · have hle : ((c :: r).takeWhile partB).length ≤ (c :: r).length := (List.takeWhile_prefix _).length_le
        rw [plainL] at h
        split at h
        · split at h
          · cases h
          · simp only [Option.some.injEq, Prod.mk.injEq] at h
            rw [← h.2.1]; omega
        · split at h
          · split at h
            · simp only [Option.some.injEq, Prod.mk.injEq] at h
              rw [← h.2.1]; omega
            · simp only [Option.some.injEq, Prod.mk.injEq] at h
              rw [← h.2.1]; omega
          · cases h
      · rw [signL.eq_def] at h
        simp only at h
        split at h
        · rename_i d hd
          simp only [Option.some.injEq, Prod.mk.injEq] at h
          have hm := List.mem_of_find?_eq_some hd
          have h2 : d.length = 2 := by
            have : ∀ x ∈ doublesL, x.length = 2 := by decide
            exact this d hm
          rw [← h.2.1]; omega
        · split at h
          · simp only [Option.some.injEq, Prod.mk.injEq] at h
            rw [← h.2.1]; simp
          · cases h
theorem IsW.text {x : WordD} (h : IsW x) : x.text.length ≤ 20000 := by
  obtain ⟨l, n, hl, hw⟩ := h
  have := wordL_text hw
  omega
theorem encW_len (x : WordD) (h : x.text.length ≤ 20000) : (encW x).length ≤ 40002 := by
  unfold encW
  split
  · simp only [List.length_append, List.length_cons, List.length_nil, qL_len]
    have := spN_le x.text
    omega
  · omega
theorem joinL_len : ∀ (l : List WordD), (∀ x ∈ l, x.text.length ≤ 20000) → (joinL l).length ≤ l.length * 40003
  | [], _ => by simp [joinL]
  | x :: r, h => by
    have h1 := encW_len x (h x (by simp))
    have h2 := joinL_len r (fun y hy => h y (by simp [hy]))
    have e : joinL (x :: r) = encW x ++ 32 :: joinL r := by simp [joinL]
    rw [e, List.length_append, List.length_cons, List.length_cons]
    omega
theorem joinL_snoc (l : List WordD) (x : WordD) : joinL (l ++ [x]) = joinL l ++ encW x ++ [32] := by simp [joinL]
theorem join_skip (L : List WordD) (h : ∀ x ∈ L, IsW x) : skipL (joinL L) = joinL L := by
  cases L with
  | nil => rfl
  | cons x r =>
    obtain ⟨l, n, _, hw⟩ := h x (by simp)
    have := (word_back hw x.at_ (joinL r)).2.1
    have e : joinL (x :: r) = encW x ++ 32 :: joinL r := by simp [joinL]
    rw [e]
    exact this
theorem Lx_join (S : Nat) : ∀ (L acc : List WordD), (∀ x ∈ L, IsW x) → ∃ L', Lx S (joinL L) acc = (acc ++ L', 0, 0) ∧ L'.map strip = L.map strip
  | [], acc, _ => ⟨[], by rw [Lx_eq, if_pos (show joinL [] = [] from rfl), List.append_nil], rfl⟩
  | x :: r, acc, h => by
    obtain ⟨l, n, _, hw⟩ := h x (by simp)
    obtain ⟨h1, h2, h3⟩ := word_back hw x.at_ (joinL r)
    have e : joinL (x :: r) = encW x ++ 32 :: joinL r := by simp [joinL]
    have hr : ∀ y ∈ r, IsW y := fun y hy => h y (by simp [hy])
    obtain ⟨L', q1, q2⟩ := Lx_join S r (acc ++ [⟨x.kind, x.text, x.n, ((S - (encW x ++ 32 :: joinL r).length : Nat) : Int)⟩]) hr
    refine ⟨⟨x.kind, x.text, x.n, ((S - (encW x ++ 32 :: joinL r).length : Nat) : Int)⟩ :: L', ?_, by rw [List.map_cons, List.map_cons, q2]; rfl⟩
    rw [e, Lx_eq, if_neg (by simp)]
    rw [show wordL (encW x ++ 32 :: joinL r) = some (x.kind, x.text, x.n, (encW x).length) from h1]
    simp only
    have hd : (encW x ++ 32 :: joinL r).drop (encW x).length = 32 :: joinL r := List.drop_left' rfl
    have hs : skipL (32 :: joinL r) = joinL r := by
      have : skipL (32 :: joinL r) = skipL (joinL r) := rfl
      rw [this, join_skip r hr]
    rw [hd, hs, q1, List.append_assoc]
    rfl
theorem lex_back (src : Bs) (hs : (joinL (lexL src).1).length ≤ 16384) : ∃ L', lexL (joinL (lexL src).1) = (L', 0, 0) ∧ L'.map strip = (lexL src).1.map strip := by
  have hw := lexL_isW src
  obtain ⟨L', h1, h2⟩ := Lx_join (joinL (lexL src).1).length (lexL src).1 [] hw
  exact ⟨L', by rw [lexL_Lx _ hs, join_skip _ hw, h1]; rfl, h2⟩
end Go.Proofs.YtcaigcmbgihhkaaGreatDoor

namespace Go.Proofs.YtcaigcmbgihhkaaGreatDoor
open Go Go.RowKit Go.Shelf
set_option linter.unusedVariables false
set_option linter.unusedSimpArgs false
theorem bld_size : (Tryz.prog.info? 70).map (·.size) = some 2 := by kernel_rfl
theorem bld_lies : liesAt Tryz.prog Tryz.prog.depth 70 (2 / Tryz.prog.cellsOf 70) 0 70 1 = true := by kernel_rfl
theorem bld_byte : (Tryz.prog.info? 5).map (fun i => (i.zero, i.size, i.bytes)) = some (some (.int .u8 0), 1, 1) := by kernel_rfl
abbrev BldAt (B b : Nat) (p : Value) (bs : List Value) (w : World) : Prop := Lib.BuilderAt 70 5 B b p bs w
abbrev IsBld (B b : Nat) (bs : List Value) (w : World) : Prop := Lib.IsBuilder 70 5 B b bs w
set_option maxHeartbeats 1000000 in
set_option maxRecDepth 100000 in
theorem check_used (b : Nat) (w : World) (h0 : w.cell? ⟨b, 0, none⟩ = some (.pointer (some ⟨b, 0, none⟩))) :
    Calls Tryz.prog 66 #[.pointer (some ⟨b, 0, none⟩)] w fun e w' => e = .returned (.tuple #[]) ∧ w' = w := by
  obtain ⟨j, hj, _⟩ := Option.map_eq_some_iff.1 bld_size
  go_enter Tryz.func66, Tryz.ntmps66
  go_wp2
  rw [Lib.run_neq_ptr_same w _ Tryz.underlying67 hj]
  go_wp2
  go_end0
  exact ⟨rfl, rfl⟩
set_option maxHeartbeats 1000000 in
set_option maxRecDepth 100000 in
theorem check_fresh (b : Nat) (w : World) (h0 : w.cell? ⟨b, 0, none⟩ = some (.pointer none)) (hsh : w.shape? b = some (70, 2)) (hfz : w.frozen? ⟨b, 0, none⟩ = false) :
    Calls Tryz.prog 66 #[.pointer (some ⟨b, 0, none⟩)] w fun e w' => e = .returned (.tuple #[]) ∧ w' = w.setCell ⟨b, 0, none⟩ (.pointer (some ⟨b, 0, none⟩)) := by
  obtain ⟨j, hj, hjs⟩ := Option.map_eq_some_iff.1 bld_size
  go_enter Tryz.func66, Tryz.ntmps66
  go_wp2
  rw [Lib.run_to_unsafe w ⟨b, 0, none⟩ Tryz.underlying67 Tryz.underlying168 hj (by rw [hjs]; decide) hsh (Nat.zero_lt_succ 1)]
  simp only [Result.andThen]
  rw [Oper.upon_value]
  go_wp2
  rw [run_callFunc_extern Tryz.func99 (by kernel_rfl) (by kernel_rfl) (by kernel_rfl) (e := Extern.AbiNoEscape.same) (by kernel_rfl)]
  rw [Lib.run_noEscape]
  simp only [Result.andThen]
  rw [Oper.upon_value]
  go_wp2
  rw [Lib.run_from_unsafe w ⟨b, 0, none⟩ Tryz.underlying168 Tryz.underlying67 hj hsh bld_lies]
  simp only [Result.andThen]
  rw [Oper.upon_value]
  go_wp2
  go_end0
  exact ⟨rfl, rfl⟩
theorem check_any (B b : Nat) (bs : List Value) (w : World) (h : IsBld B b bs w) :
    Calls Tryz.prog 66 #[.pointer (some ⟨b, 0, none⟩)] w fun e w' => e = .returned (.tuple #[]) ∧ (BldAt B b (.pointer (some ⟨b, 0, none⟩)) bs w' ∧ Below B w w') := by
  rcases h with h | h
  · refine (check_fresh b w h.cell0 h.shape h.frozen0).mono ?_
    rintro e w' ⟨rfl, rfl⟩
    exact ⟨rfl, h.used _, (Below.refl B w).setCell (p := ⟨b, 0, none⟩) h.1 _⟩
  · refine (check_used b w h.cell0).mono ?_
    rintro e w' ⟨rfl, rfl⟩
    exact ⟨rfl, h, Below.refl B _⟩
set_option maxHeartbeats 1000000 in
set_option maxRecDepth 100000 in
theorem writeString_any (B b : Nat) (bs : List Value) (s : ByteArray) (w : World) (h : IsBld B b bs w) (hlen : bs.length + s.size ≤ 140737488355328) (hBw : B ≤ w.heap.size) :
    Calls Tryz.prog 30 #[.pointer (some ⟨b, 0, none⟩), .string s] w fun e w' => e = .returned (.tuple #[.int .i64 s.size, .nilIface]) ∧ (BldAt B b (.pointer (some ⟨b, 0, none⟩)) (bs ++ Lib.strCells s) w' ∧ Below B w w') := by
  obtain ⟨i0, hi, hz0, hz1, hz2⟩ := info_parts bld_byte
  go_enter Tryz.func30, Tryz.ntmps30
  go_wp2_with (go_at_call 66; refine (check_any B b bs _ h).mono ?_)
  rintro e w1 ⟨rfl, h1, hb1⟩
  obtain ⟨hB, v, hbk, hown, hne⟩ := h1
  have c0 : w1.cell? ⟨b, 0, none⟩ = some (.pointer (some ⟨b, 0, none⟩)) := by rw [Lib.cell_of_heap hbk]; rfl
  have c1 : w1.cell? ⟨b, 1, none⟩ = some v := by rw [Lib.cell_of_heap hbk]; rfl
  go_wp2_with (at_builtin; refine Lib.wpList_append_own_string _ rfl _ _ 68 9 rfl B 5 i0 Tryz.underlying68 Tryz.underlying9 hi hz0 hz1 hz2 _ _ _ rfl hown s rfl ?c3 ?c4 ?c5 ?_)
  case c3 => unfold maxLen; omega
  case c4 => omega
  case c5 => have := hb1.size; omega
  intro v' w2 hown' hgrow _
  have hlt : b < w1.heap.size := by
    rcases Nat.lt_or_ge b w1.heap.size with h' | h'
    · exact h'
    · simp [Array.getElem?_eq_none h'] at hbk
  have hb2 : w2.heap[b]? = some (.cells #[.pointer (some ⟨b, 0, none⟩), v] 70 (0, 0)) := by
    rw [hgrow.block b hlt (fun e => hne e.symm)]
    exact hbk
  have d0 : w2.cell? ⟨b, 0, none⟩ = some (.pointer (some ⟨b, 0, none⟩)) := by rw [Lib.cell_of_heap hb2]; rfl
  have d1 : w2.cell? ⟨b, 1, none⟩ = some v := by rw [Lib.cell_of_heap hb2]; rfl
  have f1 : w2.frozen? ⟨b, 1, none⟩ = false := Lib.frozen_of_heap hb2 1
  obtain ⟨ao, n', cap, rfl⟩ : ∃ ao n' cap, v' = .slice ao n' cap := by
    rcases hown'.2 with ⟨hv, _⟩ | ⟨g, cap, cur, hv, _⟩
    · exact ⟨_, _, _, hv⟩
    · exact ⟨_, _, _, hv⟩
  go_wp2
  go_ret2
  refine ⟨rfl, ?_, ?_⟩
  · exact Lib.BuilderAt.put hB hb2 (bs' := bs ++ Lib.strCells s) (by simpa [Lib.strCells_length] using hown') (by decide)
  · exact (hb1.grown hgrow (by have := hb1.size; omega) (fun k hk => (hown.lt k hk).1)).setCell (p := ⟨b, 1, none⟩) hB _
set_option maxHeartbeats 1000000 in
set_option maxRecDepth 100000 in
theorem writeByte_any (B b : Nat) (bs : List Value) (c : Int) (w : World) (h : IsBld B b bs w) (hlen : bs.length + 1 ≤ 140737488355328) (hBw : B ≤ w.heap.size) :
    Calls Tryz.prog 31 #[.pointer (some ⟨b, 0, none⟩), .int .u8 c] w fun e w' => e = .returned (.nilIface) ∧ (BldAt B b (.pointer (some ⟨b, 0, none⟩)) (bs ++ [.int .u8 c]) w' ∧ Below B w w') := by
  obtain ⟨i0, hi, hz0, hz1, hz2⟩ := info_parts bld_byte
  go_enter Tryz.func31, Tryz.ntmps31
  go_wp2_with (go_at_call 66; refine (check_any B b bs _ h).mono ?_)
  rintro e w1 ⟨rfl, h1, hb1⟩
  obtain ⟨hB, v, hbk, hown, hne⟩ := h1
  have c0 : w1.cell? ⟨b, 0, none⟩ = some (.pointer (some ⟨b, 0, none⟩)) := by rw [Lib.cell_of_heap hbk]; rfl
  have c1 : w1.cell? ⟨b, 1, none⟩ = some v := by rw [Lib.cell_of_heap hbk]; rfl
  go_wp2_with (at_builtin; refine wpList_append_own _ rfl _ _ 68 rfl B 5 i0 (.int .u8 0) 1 1 Tryz.underlying68 hi hz0 hz1 hz2 rfl (by decide) _ _ _ rfl (hown.alloc _) ⟨w1.heap.size, 0, none⟩ 1 1 [.int .u8 c] rfl rfl (cell_one_new _ _ _) (by simp [Value.oneCell']) (by unfold maxLen; omega) (by omega) (by have := hb1.size; simp; omega) ?_)
  intro v' w2 hown' hgrow _
  have hlt : b < w1.heap.size := by
    rcases Nat.lt_or_ge b w1.heap.size with h' | h'
    · exact h'
    · simp [Array.getElem?_eq_none h'] at hbk
  have hb2 : w2.heap[b]? = some (.cells #[.pointer (some ⟨b, 0, none⟩), v] 70 (0, 0)) := by
    rw [hgrow.block b (by simp; omega) (fun e => hne e.symm), Below.heap_alloc _ _ _ hlt]
    exact hbk
  have d0 : w2.cell? ⟨b, 0, none⟩ = some (.pointer (some ⟨b, 0, none⟩)) := by rw [Lib.cell_of_heap hb2]; rfl
  have d1 : w2.cell? ⟨b, 1, none⟩ = some v := by rw [Lib.cell_of_heap hb2]; rfl
  have f1 : w2.frozen? ⟨b, 1, none⟩ = false := Lib.frozen_of_heap hb2 1
  obtain ⟨ao, n', cap, rfl⟩ : ∃ ao n' cap, v' = .slice ao n' cap := by
    rcases hown'.2 with ⟨hv, _⟩ | ⟨g, cap, cur, hv, _⟩
    · exact ⟨_, _, _, hv⟩
    · exact ⟨_, _, _, hv⟩
  go_wp2
  go_ret
  refine ⟨rfl, ?_, ?_⟩
  · exact Lib.BuilderAt.put hB hb2 (bs' := bs ++ [.int .u8 c]) (by simpa using hown') (by decide)
  · exact ((hb1.alloc (by have := hb1.size; omega) _).grown hgrow (by have := hb1.size; simp; omega) (fun k hk => (hown.lt k hk).1)).setCell (p := ⟨b, 1, none⟩) hB _
end Go.Proofs.YtcaigcmbgihhkaaGreatDoor

namespace Go.Proofs.YtcaigcmbgihhkaaGreatDoor
open Go Go.RowKit Go.Shelf
set_option linter.unusedVariables false
set_option linter.unusedSimpArgs false
attribute [local go_sem] Oper.semAt_some
theorem bld_below {B b : Nat} {p : Value} {bs : List Value} {w w' : World} (h : BldAt B b p bs w) (hb : Below w.heap.size w w') : BldAt B b p bs w' := by
  have hlt := Lib.BuilderAt.lt h
  obtain ⟨h1, v, h2, h3, h4⟩ := h
  exact ⟨h1, v, (hb.block b hlt).trans h2, own_below h3 hb, h4⟩
theorem isBld_below {B b : Nat} {bs : List Value} {w w' : World} (h : IsBld B b bs w) (hb : Below w.heap.size w w') : IsBld B b bs w' := h.imp (fun h => bld_below h hb) (fun h => bld_below h hb)
theorem bld_fresh (w : World) : IsBld w.heap.size w.heap.size [] (w.alloc (.cells #[.pointer none, .slice none 0 0] 70)) :=
  .inl ⟨Nat.le_refl _, _, World.alloc_heap_new w _, World.ownsRow_nil _ _ _ _, by simp [Value.ownBlock]⟩
theorem cells_str (l : Bs) : Lib.strCells (mkB l) = Lib.byteCells l := by simp [Lib.strCells, Lib.byteCells, mkB]
theorem byteCells_app (a b : Bs) : Lib.byteCells (a ++ b) = Lib.byteCells a ++ Lib.byteCells b := by simp [Lib.byteCells]
set_option maxRecDepth 100000 in
set_option maxHeartbeats 4000000 in
theorem join_any (w : World) (A : Option Addr) (c : Nat) (l : List WordD) (hl : l.length ≤ 16384) (ht : ∀ x ∈ l, x.text.length ≤ 20000)
    (hA : l ≠ [] → ∃ g, A = some ⟨g, 0, none⟩ ∧ g < w.heap.size ∧ ∀ k x, l[k]? = some x → ∀ i u, (wcells x)[i]? = some u → w.cell? ⟨g, k * 4 + i, none⟩ = some u) :
    Calls Tryz.prog 14 #[.slice A l.length c] w fun e w' => e = .returned (.string (mkB (joinL l))) ∧ Below w.heap.size w w' := by
  have HT := Lib.hid ht
  have HA := Lib.hid hA
  clear ht hA
  have hb0 := Lib.hid (bld_fresh w)
  have hbl0 := Lib.hid ((Below.refl w.heap.size w).alloc (Nat.le_refl _) (.cells #[.pointer none, .slice none 0 0] 70))
  go_enter Tryz.func14, Tryz.ntmps14
  go_wp2_with fail
  go_loopw [9] (fun s9 wr => ∃ k : Nat, k ≤ l.length ∧ s9 = .int .i64 (k : Int) ∧ Hid (IsBld w.heap.size w.heap.size (Lib.byteCells (joinL (l.take k))) wr) ∧ Hid (Below w.heap.size w wr)) (fun s9 _ => l.length - (intOf s9).toNat)
  case atStart => exact ⟨0, Nat.zero_le _, rfl, hb0, hbl0⟩
  case round =>
    obtain ⟨k, hk, rfl, hbd, hbl⟩ := hrel
    by_cases hlt : k < l.length
    · obtain ⟨x, hx⟩ : ∃ x, l[k]? = some x := ⟨_, List.getElem?_eq_getElem hlt⟩
      obtain ⟨g, rfl, hg, hcells⟩ := HA.out (by rintro rfl; simp at hlt)
      have hc := fun i u hu => (hbl.out.cell (p := ⟨g, k * 4 + i, none⟩) hg).trans (hcells k x hx i u hu)
      have c0 := hc 0 _ rfl
      have c1 := hc 1 _ rfl
      have c2 := hc 2 _ rfl
      have c3 := hc 3 _ rfl
      have HX := Lib.hid hx
      clear hc hcells hx
      simp only [Nat.add_zero] at c0
      have htx : x.text.length ≤ 20000 := HT.out x (List.mem_of_getElem? HX.out)
      have hen := encW_len x htx
      have hjl := joinL_len (l.take k) (fun y hy => HT.out y (List.mem_of_mem_take hy))
      have hln : (l.take k).length = k := by rw [List.length_take]; omega
      rw [hln] at hjl
      have hsn : joinL (l.take (k + 1)) = joinL (l.take k) ++ encW x ++ [32] := by rw [List.take_add_one, HX.out, Option.toList_some, joinL_snoc]
      obtain ⟨J, hJ⟩ : ∃ J, J = joinL (l.take k) := ⟨_, rfl⟩
      rw [← hJ] at hbd hsn hjl
      have hjl2 : J.length ≤ 1000000000 := by
        have : k * 40003 ≤ 16384 * 40003 := Nat.mul_le_mul_right _ (by omega)
        omega
      have hbs : (Lib.byteCells J).length ≤ 1000000000 := by simpa [Lib.byteCells] using hjl2
      have HSN := Lib.hid hsn
      have hws := fun (w' : World) (h : IsBld w.heap.size w.heap.size (Lib.byteCells J) w') (h2 : w.heap.size ≤ w'.heap.size) => writeString_any w.heap.size w.heap.size (Lib.byteCells J) (mkB (encW x)) w' h (by rw [mkB_size]; omega) h2
      rw [cells_str, ← byteCells_app] at hws
      have HWS := Lib.hid hws
      have hbs2 : (Lib.byteCells (J ++ encW x)).length + 1 ≤ 140737488355328 := by
        have : (Lib.byteCells (J ++ encW x)).length = J.length + (encW x).length := by simp [Lib.byteCells]
        omega
      have hwb := fun (w' : World) (h : IsBld w.heap.size w.heap.size (Lib.byteCells (J ++ encW x)) w') (h2 : w.heap.size ≤ w'.heap.size) => writeByte_any w.heap.size w.heap.size (Lib.byteCells (J ++ encW x)) 32 w' h hbs2 h2
      have HWB := Lib.hid hwb
      have hqt : ∀ w', x.kind = 3 → Calls Tryz.prog 29 #[.string (mkB x.text)] w' fun e w'' => e = .returned (.string (mkB (encW x))) ∧ Below w'.heap.size w' w'' := fun w' h3 => by
        have := quote_any w' (mkB x.text) (by rw [mkB_size]; omega)
        rw [bl_mkB] at this
        rw [encW, if_pos h3]
        exact this
      have HQT := Lib.hid hqt
      have het : x.kind ≠ 3 → encW x = x.text := fun h3 => by rw [encW, if_neg h3]
      have HET := Lib.hid het
      clear hJ hsn hjl hws hwb hqt het hbs hbs2 hln
      have hwsz : w.heap.size < wr.heap.size := by rcases hbd.out with h | h <;> exact Lib.BuilderAt.lt h
      by_cases hk3 : x.kind = 3
      · have hkb : (x.kind == 3) = true := beq_iff_eq.2 hk3
        have HK3 := Lib.hid hk3
        clear hk3
        go_wp2_with fail
        refine (HQT.out _ HK3.out).mono ?_
        rintro e w2 ⟨rfl, hb2⟩
        have hbd2 := Lib.hid (isBld_below (isBld_below hbd.out ((Below.refl _ wr).alloc (Nat.le_refl _) _)) hb2)
        have hbl2 := Lib.hid ((hbl.out.alloc (by omega) _).trans (hb2.mono (by simp; omega)))
        clear hb2
        go_wp2_with fail
        refine (HWS.out _ hbd2.out hbl2.out.size).mono ?_
        rintro e w3 ⟨rfl, hbd3, hb3⟩
        have hbl3 := Lib.hid (hbl2.out.trans hb3)
        have hbd3' := Lib.hid hbd3
        clear hb3 hbd3
        go_wp2_with fail
        refine (HWB.out _ (.inr hbd3'.out) hbl3.out.size).mono ?_
        rintro e w4 ⟨rfl, hbd4, hb4⟩
        have hbl4 := Lib.hid (hbl3.out.trans hb4)
        have hbd4' := Lib.hid hbd4
        clear hb4 hbd4
        go_wp2
        go_roundw
        case rel => exact ⟨k + 1, by omega, by go_num, Lib.hid (by rw [HSN.out, byteCells_app (J ++ encW x) [32]]; exact .inr hbd4'.out), hbl4⟩
        case measure => simp [intOf]; omega
      · have hkb : (x.kind == 3) = false := beq_eq_false_iff_ne.2 hk3
        have HET2 := Lib.hid (HET.out hk3)
        have hbd2 := Lib.hid (isBld_below hbd.out ((Below.refl _ wr).alloc (Nat.le_refl _) (.cells #[.int .i64 x.kind, .string (mkB x.text), .int .i64 x.n, .int .i64 x.at_] 36)))
        have hbl2 := Lib.hid (hbl.out.alloc (by omega) (.cells #[.int .i64 x.kind, .string (mkB x.text), .int .i64 x.n, .int .i64 x.at_] 36))
        clear hk3
        rw [HET2.out] at HWS HWB HSN
        go_wp2_with fail
        refine (HWS.out _ hbd2.out hbl2.out.size).mono ?_
        rintro e w3 ⟨rfl, hbd3, hb3⟩
        have hbl3 := Lib.hid (hbl2.out.trans hb3)
        have hbd3' := Lib.hid hbd3
        clear hb3 hbd3
        go_wp2_with fail
        refine (HWB.out _ (.inr hbd3'.out) hbl3.out.size).mono ?_
        rintro e w4 ⟨rfl, hbd4, hb4⟩
        have hbl4 := Lib.hid (hbl3.out.trans hb4)
        have hbd4' := Lib.hid hbd4
        clear hb4 hbd4
        go_wp2
        go_roundw
        case rel => exact ⟨k + 1, by omega, by go_num, Lib.hid (by rw [HSN.out, byteCells_app (J ++ x.text) [32]]; exact .inr hbd4'.out), hbl4⟩
        case measure => simp [intOf]; omega
    · obtain rfl : k = l.length := by omega
      rw [List.take_length] at hbd
      go_wp2_with fail
      refine (Tryz.Builder_String_any w.heap.size w.heap.size (joinL l) wr hbd.out hbl.out.size).mono ?_
      rintro e w2 ⟨rfl, hb2⟩
      have hbl2 := Lib.hid (hbl.out.trans hb2)
      clear hb2
      go_wp2
      go_ret
      exact ⟨rfl, hbl2.out⟩
end Go.Proofs.YtcaigcmbgihhkaaGreatDoor

namespace Go.Proofs.YtcaigcmbgihhkaaGreatDoor
open Go Go.RowKit Go.Shelf Go.Proofs.YtcaigcmbgihhkaaGreatDoorW.PrintWords Go.Proofs.YtcaigcmbgihhkaaGreatDoor.PLexWords
set_option linter.unusedVariables false
set_option linter.unusedSimpArgs false
attribute [local go_sem] Oper.semAt_some
theorem words_cells {W : World} {base : Nat} {A : Option Addr} {c : Nat} {l : List WordD} (h : W.ownsRow base 36 4 (.slice A l.length c) l.length (wrow l)) :
    l ≠ [] → ∃ g, A = some ⟨g, 0, none⟩ ∧ g < W.heap.size ∧ ∀ k x, l[k]? = some x → ∀ i u, (wcells x)[i]? = some u → W.cell? ⟨g, k * 4 + i, none⟩ = some u := by
  intro hne
  obtain ⟨h1, ⟨e, h0⟩ | ⟨g, cap, cur, e, h2, h3, h4, h5, h6, h7⟩⟩ := h
  · exact absurd (List.eq_nil_of_length_eq_zero h0) hne
  · cases e
    refine ⟨g, rfl, (Array.getElem?_eq_some_iff.1 h3).1, fun k x hx i u hu => ?_⟩
    have hk := (List.getElem?_eq_some_iff.1 hx).1
    have hi : i < 4 := (List.getElem?_eq_some_iff.1 hu).1
    have hc : W.cell? ⟨g, k * 4 + i, none⟩ = cur[k * 4 + i]? := by simp [World.cell?, show W.heap[g]? = _ from h3]
    rw [hc, take_get h7 _ (by omega)]
    exact wrow_get l k x hx i u hu
set_option maxRecDepth 100000 in
set_option maxHeartbeats 2000000 in
theorem lexBack_any (s : ByteArray) (hs : s.size ≤ 140737488351232) (W : World) (hS : SpaceAt W) : Calls Tryz.prog 5 #[.string s] W fun e W' => e = .returned (.bool true) ∧ Below W.heap.size W W' := by
  have h1 := words_any W s hs hS
  have hback := lex_back (bl s)
  have hisw := lexL_isW (bl s)
  obtain ⟨⟨l1, at1, e1⟩, hR1⟩ : ∃ R, R = lexL (bl s) := ⟨_, rfl⟩
  have hn1 := lexL_len (bl s)
  rw [← hR1] at h1 hn1 hback hisw
  dsimp only at h1 hn1 hback hisw
  have H1 := Lib.hid h1
  have HS := Lib.hid hS
  clear h1 hS hR1
  by_cases he1 : e1 = 0
  · subst he1
    have htx : ∀ x ∈ l1, x.text.length ≤ 20000 := fun x hx => (hisw x hx).text
    have hjl := joinL_len l1 htx
    have hjl2 : (joinL l1).length ≤ 1000000000 := by
      have : l1.length * 40003 ≤ 16384 * 40003 := Nat.mul_le_mul_right _ hn1
      omega
    have h2 := fun w (h : SpaceAt w) => words_any w (mkB (joinL l1)) (by rw [mkB_size]; omega) h
    rw [bl_mkB] at h2
    have hsz : (mkB (joinL l1)).size = (joinL l1).length := mkB_size _
    have HTX := Lib.hid htx
    by_cases hlong : 16384 < (joinL l1).length
    · have hl2 : lexL (joinL l1) = ([], 0, 6) := by rw [lexL, if_pos hlong]
      rw [hl2] at h2
      dsimp only at h2
      have H2 := Lib.hid h2
      have hlg : (16384 : Int) < ((mkB (joinL l1)).size : Int) := by omega
      clear h2 hl2 hback hisw htx hjl hjl2 hsz hlong
      go_enter Tryz.func5, Tryz.ntmps5
      go_wp2_with fail
      refine H1.out.mono ?_
      rintro e w1 ⟨v1, rfl, hown1, b1⟩
      obtain ⟨A1, c1, rfl, hc1, hr1⟩ := words_read (by omega) hown1
      have hwc := Lib.hid (words_cells hown1)
      have B1 := Lib.hid b1
      clear hown1 b1 hr1
      go_wp2_with fail
      refine (join_any _ A1 c1 l1 hn1 HTX.out hwc.out).mono ?_
      rintro e w2 ⟨rfl, b2⟩
      have B2 := Lib.hid (B1.out.trans (b2.mono B1.out.size))
      clear b2
      go_wp2_with fail
      refine (H2.out _ (HS.out.mono B2.out)).mono ?_
      rintro e w3 ⟨v3, rfl, hown3, b3⟩
      have B3 := Lib.hid (B2.out.trans (b3.mono B2.out.size))
      clear hown3 b3
      go_wp2_with fail
      refine (known24_any _ (HS.out.mono B3.out)).mono ?_
      rintro e w4 ⟨rfl, b4⟩
      have B4 := Lib.hid (B3.out.trans (b4.mono B3.out.size))
      clear b4
      go_wp2
      go_ret
      exact ⟨rfl, B4.out⟩
    · obtain ⟨l2, q1, q2⟩ := hback (by omega)
      have hn2 := lexL_len (joinL l1)
      rw [q1] at h2 hn2
      dsimp only at h2 hn2
      have H2 := Lib.hid h2
      have Q2 := Lib.hid q2
      have hlx : l2.length = l1.length := by have := congrArg List.length q2; simpa using this
      have HLX := Lib.hid hlx
      have hlg : ((mkB (joinL l1)).size : Int) ≤ 16384 := by omega
      clear h2 q1 q2 hback hisw htx hjl hjl2 hsz hlong hlx
      go_enter Tryz.func5, Tryz.ntmps5
      go_wp2_with fail
      refine H1.out.mono ?_
      rintro e w1 ⟨v1, rfl, hown1, b1⟩
      obtain ⟨A1, c1, rfl, hc1, hr1⟩ := words_read (by omega) hown1
      have hwc := Lib.hid (words_cells hown1)
      have B1 := Lib.hid b1
      have R1 := Lib.hid hr1
      clear hown1 b1 hr1
      go_wp2_with fail
      refine (join_any _ A1 c1 l1 hn1 HTX.out hwc.out).mono ?_
      rintro e w2 ⟨rfl, b2⟩
      have B2 := Lib.hid (B1.out.trans (b2.mono B1.out.size))
      have R1' := Lib.hid (Kd.C_below R1.out b2)
      clear b2
      go_wp2_with fail
      refine (H2.out _ (HS.out.mono B2.out)).mono ?_
      rintro e w3 ⟨v3, rfl, hown3, b3⟩
      obtain ⟨A3, c3, rfl, hc3, hr3⟩ := words_read (by omega) hown3
      have B3 := Lib.hid (B2.out.trans (b3.mono B2.out.size))
      have R1'' := Lib.hid (Kd.C_below R1'.out b3)
      have R3 := Lib.hid hr3
      clear hown3 b3 hr3
      go_wp2_with fail
      refine (taken_any _ _ _ l1 (by omega) R1''.out hc1).mono ?_
      rintro e w4 ⟨A4, c4, rfl, hc4, hr4, _, b4⟩
      have B4 := Lib.hid (B3.out.trans (b4.mono B3.out.size))
      have R3' := Lib.hid (Kd.C_below R3.out b4)
      have R4 := Lib.hid hr4
      clear b4 hr4
      go_wp2_with fail
      refine (taken_any _ _ _ l2 (by omega) R3'.out hc3).mono ?_
      rintro e w5 ⟨A5, c5, rfl, hc5, hr5, _, b5⟩
      have B5 := Lib.hid (B4.out.trans (b5.mono B4.out.size))
      have R4' := Lib.hid (Kd.C_below R4.out b5)
      have R5 := Lib.hid hr5
      clear b5 hr5
      go_wp2_with fail
      refine (same2_n _ A4 A5 c4 c5 l1.length l2.length l1 l2 Q2.out rfl HLX.out (by omega) R4'.out hc4 R5.out hc5).mono ?_
      rintro e w6 ⟨rfl, b6⟩
      have B6 := Lib.hid (B5.out.trans (b6.mono B5.out.size))
      clear b6
      go_wp2_with fail
      refine (known24_any _ (HS.out.mono B6.out)).mono ?_
      rintro e w7 ⟨rfl, b7⟩
      have B7 := Lib.hid (B6.out.trans (b7.mono B6.out.size))
      clear b7
      go_wp2
      go_ret
      exact ⟨rfl, B7.out⟩
  · have hq1 : (e1 != 0) = true := by simp [he1]
    have hq2 : (e1 == 0) = false := by simp [he1]
    clear he1 hback hisw
    go_enter Tryz.func5, Tryz.ntmps5
    go_wp2_with fail
    refine H1.out.mono ?_
    rintro e w1 ⟨v1, rfl, hown1, b1⟩
    have B1 := Lib.hid b1
    clear hown1 b1
    go_wp2_with fail
    refine (known24_any _ (HS.out.mono B1.out)).mono ?_
    rintro e w4 ⟨rfl, b4⟩
    have B4 := Lib.hid (B1.out.trans (b4.mono B1.out.size))
    clear b4
    go_wp2
    go_ret
    exact ⟨rfl, B4.out⟩
end Go.Proofs.YtcaigcmbgihhkaaGreatDoor
