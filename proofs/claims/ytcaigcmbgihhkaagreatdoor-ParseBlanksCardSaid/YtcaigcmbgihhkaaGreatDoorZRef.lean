/-
  Part of a proof: LexS, LexN, LexR, LexT, LexU, LexV.
-/
import Derived.WalkKit
import Derived.Lib.Hide
import Derived.Test.YtcaigcmbgihhkaaGreatDoorZPb
import Derived.Lib.Strings
namespace Go.Proofs.YtcaigcmbgihhkaaGreatDoor
open Go Go.RowKit
set_option linter.unusedVariables false
set_option linter.unusedSimpArgs false
abbrev Bs := List UInt8
def blkB (c : UInt8) : Bool := c == 32 || c == 9 || c == 10 || c == 13
def digB (c : UInt8) : Bool := decide (48 ≤ c.toNat) && decide (c.toNat ≤ 57)
def letB (c : UInt8) : Bool := (decide (97 ≤ c.toNat) && decide (c.toNat ≤ 122)) || (decide (65 ≤ c.toNat) && decide (c.toNat ≤ 90)) || c == 95
def partB (c : UInt8) : Bool := letB c || digB c
def blankN : Bool → Bs → Nat
  | _, [] => 0
  | true, c :: r => if c = 10 then blankN false r + 1 else blankN true r + 1
  | false, c :: r => if blkB c then blankN false r + 1 else if c = 47 ∧ r.head? = some 47 then blankN true r + 1 else 0
def skipL (l : Bs) : Bs := l.drop (blankN false l)
theorem skipL_len (l : Bs) : (skipL l).length ≤ l.length := by rw [skipL, List.length_drop]; omega
def escL (c : UInt8) : Option UInt8 := if c = 110 then some 10 else if c = 116 then some 9 else if c = 34 ∨ c = 92 then some c else none
def textL : Bs → Bs → Nat → Option (Bs × Nat)
  | [], _, _ => none
  | c :: r, acc, n =>
    if c = 34 then (if acc.length ≤ 64 then some (acc, n + 1) else none)
    else if c.toNat < 32 ∨ 126 < c.toNat then none
    else if c = 92 then (match r with | [] => none | d :: r2 => match escL d with | none => none | some e => textL r2 (acc ++ [e]) (n + 2))
    else textL r (acc ++ [c]) (n + 1)
def valL (t : Bs) : Nat := t.foldl (fun u c => u * 10 + (c.toNat - 48)) 0
def readL (t : Bs) : Option Nat := if t.all digB ∧ 0 < t.length ∧ (t.length = 1 ∨ t.head? ≠ some 48) ∧ t.length ≤ 19 ∧ valL t < 9223372036854775808 then some (valL t) else none
def nameL (t : Bs) : Bool := decide (0 < t.length) && decide (t.length ≤ 24) && !(t.head?.any digB) && t.all partB
def keysL : List Bs := [[97, 115], [98, 111, 111, 108], [99, 97, 116, 99, 104], [99, 108, 97, 115, 115], [100, 111], [101, 108, 115, 101], [101, 120, 116, 101, 110, 100, 115], [102, 97, 108, 115, 101], [102, 105, 101, 108, 100], [105, 102], [105, 110, 116], [105, 115], [108, 101, 110], [109, 101, 116, 104, 111, 100], [110, 101, 119], [110, 117, 108, 108], [112, 114, 105, 110, 116], [114, 101, 97, 100], [114, 101, 116, 117, 114, 110], [115, 101, 116], [115, 112, 97, 119, 110], [115, 116, 114], [115, 121, 110, 99], [116, 104, 105, 115], [116, 104, 114, 111, 119], [116, 114, 117, 101], [116, 114, 121], [117, 110, 105, 116], [118, 97, 114], [119, 104, 105, 108, 101]]
def doublesL : List Bs := [[61, 61], [33, 61], [60, 61], [62, 61], [38, 38], [124, 124]]
def singlesL : Bs := [123, 125, 40, 41, 91, 93, 59, 44, 46, 61, 43, 45, 42, 47, 37, 60, 62, 33]
structure WordD where
  kind : Int
  text : Bs
  n : Int
  at_ : Int
deriving DecidableEq
def plainL (t : Bs) : Option (Int × Bs × Int × Nat) :=
  if t.head?.any digB then (match readL t with | none => none | some v => some (2, t, (v : Int), t.length))
  else if nameL t then (if t ∈ keysL then some (5, t, 0, t.length) else some (1, t, 0, t.length)) else none
def signL (l : Bs) : Option (Int × Bs × Int × Nat) :=
  match doublesL.find? (fun d => d.isPrefixOf l) with
  | some d => some (4, d, 0, 2)
  | none => match l with | [] => none | c :: _ => if c ∈ singlesL then some (4, [c], 0, 1) else none
def wordL (l : Bs) : Option (Int × Bs × Int × Nat) :=
  match l with
  | [] => none
  | c :: r =>
    if c = 34 then (match textL r [] 1 with | none => none | some (t, n) => some (3, t, 0, n))
    else if partB c then plainL (l.takeWhile partB)
    else signL l
theorem textL_n : ∀ (l acc : Bs) (n : Nat) (t : Bs) (m : Nat), textL l acc n = some (t, m) → n < m ∧ m ≤ n + l.length
  | [], acc, n, t, m, h => by simp [textL] at h
  | c :: r, acc, n, t, m, h => by
    rw [textL.eq_def] at h
    simp only at h
    split at h
    · split at h
      · simp at h; obtain ⟨_, rfl⟩ := h; simp
      · cases h
    · split at h
      · cases h
      · split at h
        · split at h
          · cases h
          · split at h
            · cases h
            · have := textL_n _ _ _ _ _ h; simp; omega
        · have := textL_n _ _ _ _ _ h; simp; omega
theorem wordL_n {l : Bs} {k : Int} {t : Bs} {v : Int} {n : Nat} (h : wordL l = some (k, t, v, n)) : 0 < n ∧ n ≤ l.length ∧ k ≠ 0 := by
  cases l with
  | nil => simp [wordL] at h
  | cons c r =>
    rw [wordL.eq_def] at h
    simp only at h
    split at h
    · split at h
      · cases h
      · rename_i h1
        simp only [Option.some.injEq, Prod.mk.injEq] at h
        obtain ⟨rfl, rfl, rfl, rfl⟩ := h
        have := textL_n _ _ _ _ _ h1
        simp; omega
    · split at h
      · rename_i hp
        have hpos : 0 < ((c :: r).takeWhile partB).length := by rw [List.takeWhile_cons, if_pos hp]; simp
        have hle : ((c :: r).takeWhile partB).length ≤ (c :: r).length := (List.takeWhile_prefix _).length_le
        rw [plainL] at h
        split at h
        · split at h
          · cases h
          · simp only [Option.some.injEq, Prod.mk.injEq] at h
            obtain ⟨rfl, rfl, rfl, rfl⟩ := h
            exact ⟨hpos, hle, by decide⟩
        · split at h
          · split at h
            · simp only [Option.some.injEq, Prod.mk.injEq] at h
              obtain ⟨rfl, rfl, rfl, rfl⟩ := h
              exact ⟨hpos, hle, by decide⟩
            · simp only [Option.some.injEq, Prod.mk.injEq] at h
              obtain ⟨rfl, rfl, rfl, rfl⟩ := h
              exact ⟨hpos, hle, by decide⟩
          · cases h
      · rw [signL] at h
        split at h
        · rename_i d hd
          simp only [Option.some.injEq, Prod.mk.injEq] at h
          obtain ⟨rfl, rfl, rfl, rfl⟩ := h
          have hm := List.mem_of_find?_eq_some hd
          have hpre := List.find?_some hd
          have h2 : d.length = 2 := by
            have : ∀ x ∈ doublesL, x.length = 2 := by decide
            exact this d hm
          have := (List.isPrefixOf_iff_prefix.1 hpre).length_le
          exact ⟨by omega, by omega, by decide⟩
        · split at h
          · simp only [Option.some.injEq, Prod.mk.injEq] at h
            obtain ⟨rfl, rfl, rfl, rfl⟩ := h
            simp
          · cases h
def lexFrom (size : Nat) : Nat → Bs → List WordD → List WordD × Int × Int
  | 0, l, acc => (acc, 0, 0)
  | m + 1, l, acc =>
    if l = [] then (acc, 0, 0) else match wordL l with
    | none => ([], ((size - l.length : Nat) : Int), 18)
    | some (k, t, v, n) => lexFrom size m (skipL (l.drop n)) (acc ++ [⟨k, t, v, ((size - l.length : Nat) : Int)⟩])
def lexL (src : Bs) : List WordD × Int × Int := if 16384 < src.length then ([], 0, 6) else lexFrom src.length (src.length + 1) (skipL src) []
theorem lexFrom_more (size : Nat) : ∀ (m m' : Nat) (l : Bs) (acc : List WordD), l.length < m → l.length < m' → lexFrom size m l acc = lexFrom size m' l acc
  | 0, _, l, _, h, _ => by omega
  | _ + 1, 0, l, _, _, h => by omega
  | m + 1, m' + 1, l, acc, h, h' => by
    rw [lexFrom, lexFrom]
    split
    · rfl
    · split
      · rfl
      · rename_i k t v n hw
        obtain ⟨h1, h2, _⟩ := wordL_n hw
        have := skipL_len (l.drop n)
        rw [List.length_drop] at this
        exact lexFrom_more size m m' _ _ (by omega) (by omega)
end Go.Proofs.YtcaigcmbgihhkaaGreatDoor
namespace Go.Proofs.YtcaigcmbgihhkaaGreatDoor
open Go Go.RowKit
set_option linter.unusedVariables false
set_option linter.unusedSimpArgs false
def textN (n : Nat) : Bs := if n < 10 then [UInt8.ofNat (48 + n)] else textN (n / 10) ++ [UInt8.ofNat (48 + n % 10)]
termination_by n
decreasing_by omega
theorem textN_lt {n : Nat} (h : n < 10) : textN n = [UInt8.ofNat (48 + n)] := by rw [textN, if_pos h]
theorem textN_ge {n : Nat} (h : ¬ n < 10) : textN n = textN (n / 10) ++ [UInt8.ofNat (48 + n % 10)] := by rw [textN, if_neg h]
def textZ (n : Int) : Bs := if n < 0 then 45 :: textN (-n).toNat else textN n.toNat
theorem valL_snoc (t : Bs) (c : UInt8) : valL (t ++ [c]) = valL t * 10 + (c.toNat - 48) := by simp [valL, List.foldl_append]
theorem dig_ofNat {d : Nat} (h : d < 10) : (UInt8.ofNat (48 + d)).toNat = 48 + d := by rw [UInt8.toNat_ofNat']; omega
theorem textN_pos (n : Nat) : 0 < (textN n).length := by rw [textN]; split <;> simp
theorem textN_props : ∀ (n : Nat), (textN n).all digB = true ∧ ((textN n).length = 1 ∨ (textN n).head? ≠ some 48) ∧ valL (textN n) = n := by
  intro n
  induction n using Nat.strongRecOn with
  | _ n ih =>
    by_cases h : n < 10
    · rw [textN_lt h]
      refine ⟨?_, .inl rfl, ?_⟩
      · simp [digB, dig_ofNat h]; omega
      · simp only [valL, List.foldl_cons, List.foldl_nil, dig_ofNat h]; omega
    · rw [textN_ge h]
      obtain ⟨h1, h2, h3⟩ := ih (n / 10) (by omega)
      have hd := dig_ofNat (d := n % 10) (by omega)
      refine ⟨?_, .inr ?_, ?_⟩
      · rw [List.all_append, h1]; simp [digB, hd]; omega
      · have hp := textN_pos (n / 10)
        have e : (textN (n / 10) ++ [UInt8.ofNat (48 + n % 10)]).head? = (textN (n / 10)).head? := by
          cases hx : textN (n / 10) with
          | nil => rw [hx] at hp; simp at hp
          | cons a r => rfl
        rw [e]
        rcases h2 with h2 | h2
        · intro h48
          have : textN (n / 10) = [48] := by
            cases hx : textN (n / 10) with
            | nil => rw [hx] at hp; simp at hp
            | cons a r =>
              rw [hx] at h2 h48
              simp at h2 h48
              rw [h48, h2]
          rw [this] at h3
          simp [valL] at h3
          omega
        · exact h2
      · rw [valL_snoc, h3, hd]; omega
theorem textN_len : ∀ (k n : Nat), n < 10 ^ (k + 1) → (textN n).length ≤ k + 1 := by
  intro k
  induction k with
  | zero => intro n h; rw [textN_lt (by simpa using h)]; simp
  | succ k ih =>
    intro n h
    by_cases hn : n < 10
    · rw [textN_lt hn]; simp
    · rw [textN_ge hn, List.length_append, List.length_singleton]
      have := ih (n / 10) (by rw [Nat.pow_succ] at h; exact Nat.div_lt_of_lt_mul (by rw [Nat.mul_comm]; exact h))
      omega
theorem snoc_cases {α : Type} (l : List α) (h : l ≠ []) : ∃ i x, l = i ++ [x] := ⟨l.dropLast, l.getLast h, (List.dropLast_concat_getLast h).symm⟩
theorem valL_pos : ∀ (m : Nat) (t : Bs), t.length = m → t.all digB = true → 0 < t.length → t.head? ≠ some 48 → 0 < valL t := by
  intro m
  induction m with
  | zero => intro t h _ h2 _; omega
  | succ m ih =>
    intro t hl hd hp hh
    obtain ⟨i, c, rfl⟩ := snoc_cases t (by intro e; simp [e] at hl)
    rw [List.all_append] at hd
    simp only [Bool.and_eq_true, List.all_cons, List.all_nil, Bool.and_true] at hd
    rw [valL_snoc]
    cases i with
    | nil =>
      simp only [digB, Bool.and_eq_true, decide_eq_true_eq] at hd
      have : c.toNat ≠ 48 := by
        intro h; apply hh; simp; exact UInt8.toNat_inj.1 h
      simp [valL]; omega
    | cons a r =>
      have := ih (a :: r) (by simp at hl ⊢; omega) hd.1 (by simp) (by simpa using hh)
      omega
theorem textN_of_val : ∀ (m : Nat) (t : Bs), t.length = m → t.all digB = true → 0 < t.length → (t.length = 1 ∨ t.head? ≠ some 48) → textN (valL t) = t := by
  intro m
  induction m with
  | zero => intro t h _ h2 _; omega
  | succ m ih =>
    intro t hl hd hp hh
    obtain ⟨i, c, rfl⟩ := snoc_cases t (by intro e; simp [e] at hl)
    have hd' := hd
    rw [List.all_append] at hd
    simp only [Bool.and_eq_true, List.all_cons, List.all_nil, Bool.and_true] at hd
    have hc := hd.2
    simp only [digB, Bool.and_eq_true, decide_eq_true_eq] at hc
    have hcd : UInt8.ofNat (48 + (c.toNat - 48)) = c := by
      rw [show 48 + (c.toNat - 48) = c.toNat by omega]
      exact UInt8.ofNat_toNat
    rw [valL_snoc]
    cases i with
    | nil =>
      have e : valL ([] : Bs) = 0 := rfl
      rw [e, Nat.zero_mul, Nat.zero_add, textN_lt (by omega), hcd]
      rfl
    | cons a r =>
      have hh2 : (a :: r).head? ≠ some 48 := by
        rcases hh with hh | hh
        · simp at hh
        · simpa using hh
      have hv := valL_pos _ (a :: r) rfl hd.1 (by simp) hh2
      have := ih (a :: r) (by simp at hl ⊢; omega) hd.1 (by simp) (.inr hh2)
      rw [textN_ge (by omega), show (valL (a :: r) * 10 + (c.toNat - 48)) / 10 = valL (a :: r) by omega, this, show (valL (a :: r) * 10 + (c.toNat - 48)) % 10 = c.toNat - 48 by omega, hcd]
theorem readL_text (t : Bs) (n : Int) (h0 : -9223372036854775808 ≤ n) (h1 : n ≤ 9223372036854775807) (hd : t.head?.any digB = true) (h : textZ n = t) : readL t = some n.toNat ∧ 0 ≤ n := by
  by_cases hn : n < 0
  · rw [textZ, if_pos hn] at h
    rw [← h] at hd
    simp [digB] at hd
  · rw [textZ, if_neg hn] at h
    obtain ⟨p1, p2, p3⟩ := textN_props n.toNat
    have p4 := textN_pos n.toNat
    have p5 := textN_len 18 n.toNat (by omega)
    rw [h] at p1 p2 p3 p4 p5
    refine ⟨?_, by omega⟩
    rw [readL, if_pos ⟨p1, p4, p2, p5, by omega⟩, p3]
theorem readL_some {t : Bs} {v : Nat} (h : readL t = some v) : textZ (v : Int) = t ∧ v < 9223372036854775808 ∧ valL t = v ∧ t.all digB = true ∧ t.length ≤ 19 ∧ 0 < t.length := by
  rw [readL] at h
  split at h
  · rename_i hc
    obtain ⟨h1, h2, h3, h4, h5⟩ := hc
    simp only [Option.some.injEq] at h
    subst h
    refine ⟨?_, h5, rfl, h1, h4, h2⟩
    rw [textZ, if_neg (by omega), Int.toNat_natCast]
    exact textN_of_val _ t rfl h1 h2 h3
  · cases h
end Go.Proofs.YtcaigcmbgihhkaaGreatDoor
namespace Go.Proofs.YtcaigcmbgihhkaaGreatDoor
open Go Go.RowKit Go.Proofs.YtcaigcmbgihhkaaGreatDoorW.PrintWords Go.Proofs.YtcaigcmbgihhkaaGreatDoor.PLexWords
set_option linter.unusedVariables false
set_option linter.unusedSimpArgs false
abbrev bl (s : ByteArray) : Bs := s.data.toList
theorem bl_len (s : ByteArray) : (bl s).length = s.size := by simp [bl]
theorem bt_drop {s : ByteArray} {p : Nat} {c : UInt8} {r : Bs} (h : (bl s).drop p = c :: r) : bt s (p : Int) = (c.toNat : Int) ∧ p < s.size := by
  have hlt : p < (bl s).length := by
    have := congrArg List.length h
    rw [List.length_drop] at this
    simp only [List.length_cons] at this
    omega
  have e : (bl s)[p]? = some c := by
    have := congrArg (fun l => l[0]?) h
    simpa [List.getElem?_drop] using this
  have hlt' : p < s.size := by rw [← bl_len]; exact hlt
  refine ⟨?_, hlt'⟩
  simp only [bt, Int.toNat_natCast]
  rw [dif_pos hlt']
  have : s[p] = c := by
    have h2 : (bl s)[p] = c := by rw [List.getElem?_eq_getElem hlt] at e; exact Option.some.inj e
    exact h2
  rw [this]
theorem drop_nil {s : ByteArray} {p : Nat} (h : (bl s).drop p = []) : s.size ≤ p := by
  rw [← bl_len]; exact List.drop_eq_nil_iff.1 h
theorem drop_step {s : ByteArray} {p : Nat} {c : UInt8} {r : Bs} (h : (bl s).drop p = c :: r) : (bl s).drop (p + 1) = r := by
  rw [← List.drop_drop, h]; rfl
theorem wrap_nat {n : Nat} (h : n ≤ 9223372036854775807) : wrap64 (n : Int) = (n : Int) := by unfold wrap64; omega
theorem wrap_succ {n : Nat} (h : n < 9223372036854775807) : wrap64 ((n : Int) + 1) = ((n + 1 : Nat) : Int) := by unfold wrap64; omega
theorem ext_list (s : ByteArray) (p q : Nat) : bl (s.extract p q) = ((bl s).drop p).take (q - p) := by
  simp [bl, ByteArray.data_extract, List.drop_take, Array.toList_extract]
theorem toList_bl (s : ByteArray) : s.toList = bl s := Lib.toList_data s
theorem bl_inj {a b : ByteArray} (h : bl a = bl b) : a = b := by
  have : a.data = b.data := Array.toList_inj.1 h
  cases a; cases b; simp_all
set_option maxRecDepth 10000 in
theorem letter_tells (c : UInt8) : hornbookref24_letter.f (c.toNat : Int) = some (letB c) := by
  unfold hornbookref24_letter.f letB
  have e : (c == 95) = ((c.toNat : Int) == 95) := by
    rw [Bool.eq_iff_iff]; simp only [beq_iff_eq]
    constructor
    · intro h; subst h; rfl
    · intro h; exact UInt8.toNat_inj.1 (by simpa using (by omega : c.toNat = 95))
  rw [e]
  by_cases h1 : 97 ≤ c.toNat <;> by_cases h2 : c.toNat ≤ 122 <;> by_cases h3 : 65 ≤ c.toNat <;> by_cases h4 : c.toNat ≤ 90 <;> simp [h1, h2, h3, h4] <;> (try split) <;> (try split) <;> (try split) <;> (try split) <;> first | rfl | (exfalso; omega) | simp_all | omega
theorem digit_tells (c : UInt8) : hornbookref24_digit.f (c.toNat : Int) = some (digB c) := by
  unfold hornbookref24_digit.f digB
  by_cases h1 : 48 ≤ c.toNat
  · rw [if_pos (by omega)]
    simp [h1]
    omega
  · rw [if_neg (by omega)]
    simp [h1]
theorem u8_eq (c : UInt8) (k : Nat) (hk : k < 256) : (c = UInt8.ofNat k) ↔ ((c.toNat : Int) = (k : Int)) := by
  constructor
  · intro h; subst h; simp [UInt8.toNat_ofNat']; omega
  · intro h; apply UInt8.toNat_inj.1; simp [UInt8.toNat_ofNat']; omega
theorem two_slash (c : UInt8) (r : Bs) : ([47, 47] : Bs).isPrefixOf (c :: r) = decide (c = 47 ∧ r.head? = some 47) := by
  rw [Bool.eq_iff_iff, List.isPrefixOf_iff_prefix, decide_eq_true_eq]
  constructor
  · rintro ⟨t, h⟩
    cases h
    exact ⟨rfl, rfl⟩
  · rintro ⟨rfl, h⟩
    cases r with
    | nil => cases h
    | cons d t => cases h; exact ⟨t, rfl⟩
end Go.Proofs.YtcaigcmbgihhkaaGreatDoor
namespace Go.Proofs.YtcaigcmbgihhkaaGreatDoor
open Go Go.RowKit Go.Proofs.YtcaigcmbgihhkaaGreatDoorW.PrintWords Go.Proofs.YtcaigcmbgihhkaaGreatDoor.PLexWords
set_option linter.unusedVariables false
set_option linter.unusedSimpArgs false
def nums (l : Bs) : List Int := l.map fun c => (c.toNat : Int)
theorem nums_snoc (l : Bs) (c : UInt8) : nums l ++ [(c.toNat : Int)] = nums (l ++ [c]) := by simp [nums]
theorem nums_len (l : Bs) : (nums l).length = l.length := by simp [nums]
theorem str_nums (l : Bs) : strOfNums (nums l) = ⟨l.toArray⟩ := by
  simp only [strOfNums, nums, List.map_map]
  congr 2
  conv => rhs; rw [← List.map_id l]
  apply List.map_congr_left
  intro c _
  simp
end Go.Proofs.YtcaigcmbgihhkaaGreatDoor
namespace Go.Proofs.YtcaigcmbgihhkaaGreatDoor
open Go Go.RowKit Go.Proofs.YtcaigcmbgihhkaaGreatDoorW.PrintWords Go.Proofs.YtcaigcmbgihhkaaGreatDoor.PLexWords
set_option linter.unusedVariables false
set_option linter.unusedSimpArgs false
theorem bl_append (a b : ByteArray) : bl (a ++ b) = bl a ++ bl b := by simp [bl, ByteArray.data_append]
theorem wrap_range (n : Int) : -9223372036854775808 ≤ wrap64 n ∧ wrap64 n ≤ 9223372036854775807 := by unfold wrap64; omega
def rres : Option Nat → Int × Int
  | some v => ((v : Int), 0)
  | none => (0, 5)
end Go.Proofs.YtcaigcmbgihhkaaGreatDoor
namespace Go.Proofs.YtcaigcmbgihhkaaGreatDoor
open Go Go.RowKit Go.Proofs.YtcaigcmbgihhkaaGreatDoorW.PrintWords Go.Proofs.YtcaigcmbgihhkaaGreatDoor.PLexWords
set_option linter.unusedVariables false
set_option linter.unusedSimpArgs false
def mkB (l : Bs) : ByteArray := ⟨l.toArray⟩
theorem bl_mkB (l : Bs) : bl (mkB l) = l := by simp [bl, mkB]
theorem mkB_bl (s : ByteArray) : mkB (bl s) = s := bl_inj (bl_mkB _)
theorem mkB_size (l : Bs) : (mkB l).size = l.length := by rw [← bl_len, bl_mkB]
end Go.Proofs.YtcaigcmbgihhkaaGreatDoor
