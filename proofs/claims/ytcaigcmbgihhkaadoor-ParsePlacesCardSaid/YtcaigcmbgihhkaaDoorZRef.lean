/-
  Part of a proof: LexS, LexN, LexR, LexT, LexU, LexV.
-/
import Derived.WalkKit
import Derived.Lib.Hide
import Derived.Test.YtcaigcmbgihhkaaDoorZPb
import Derived.Lib.Strings
namespace Go.Proofs.YtcaigcmbgihhkaaDoor
open Go Go.RowKit
set_option linter.unusedVariables false
set_option linter.unusedSimpArgs false
abbrev Bs := List UInt8
def blkB (c : UInt8) : Bool := c == 32 || c == 9 || c == 10 || c == 13
def digB (c : UInt8) : Bool := decide (48 ≤ c.toNat) && decide (c.toNat ≤ 57)
def letB (c : UInt8) : Bool := (decide (97 ≤ c.toNat) && decide (c.toNat ≤ 122)) || (decide (65 ≤ c.toNat) && decide (c.toNat ≤ 90)) || c == 95
def partB (c : UInt8) : Bool := letB c || digB c
def blankN : Bool → Bs → Nat
  | _, [] => 0
  | true, c :: r => if c = 10 then blankN false r + 1 else blankN true r + 1
  | false, c :: r => if blkB c then blankN false r + 1 else if c = 47 ∧ r.head? = some 47 then blankN true r + 1 else 0
theorem blankN_le : ∀ (m : Bool) (l : Bs), blankN m l ≤ l.length
  | m, [] => by cases m <;> simp [blankN]
  | true, c :: r => by
    have h1 := blankN_le false r
    have h2 := blankN_le true r
    rw [blankN]
    split <;> simp <;> omega
  | false, c :: r => by
    have h1 := blankN_le false r
    have h2 := blankN_le true r
    rw [blankN]
    split
    · simp; omega
    · split <;> simp <;> omega
def skipL (l : Bs) : Bs := l.drop (blankN false l)
theorem skipL_len (l : Bs) : (skipL l).length ≤ l.length := by rw [skipL, List.length_drop]; omega
def escL (c : UInt8) : Option UInt8 := if c = 110 then some 10 else if c = 116 then some 9 else if c = 34 ∨ c = 92 then some c else none
def textL : Bs → Bs → Nat → Option (Bs × Nat)
  | [], _, _ => none
  | c :: r, acc, n =>
    if c = 34 then (if acc.length ≤ 64 then some (acc, n + 1) else none)
    else if c.toNat < 32 ∨ 126 < c.toNat then none
    else if c = 92 then (match r with | [] => none | d :: r2 => match escL d with | none => none | some e => textL r2 (acc ++ [e]) (n + 2))
    else textL r (acc ++ [c]) (n + 1)
def valL (t : Bs) : Nat := t.foldl (fun u c => u * 10 + (c.toNat - 48)) 0
def readL (t : Bs) : Option Nat := if t.all digB ∧ 0 < t.length ∧ (t.length = 1 ∨ t.head? ≠ some 48) ∧ t.length ≤ 19 ∧ valL t < 9223372036854775808 then some (valL t) else none
def nameL (t : Bs) : Bool := decide (0 < t.length) && decide (t.length ≤ 24) && !(t.head?.any digB) && t.all partB
def keysL : List Bs := [[97, 115], [98, 111, 111, 108], [99, 97, 116, 99, 104], [99, 108, 97, 115, 115], [100, 111], [101, 108, 115, 101], [101, 120, 116, 101, 110, 100, 115], [102, 97, 108, 115, 101], [102, 105, 101, 108, 100], [105, 102], [105, 110, 116], [105, 115], [108, 101, 110], [109, 101, 116, 104, 111, 100], [110, 101, 119], [110, 117, 108, 108], [112, 114, 105, 110, 116], [114, 101, 97, 100], [114, 101, 116, 117, 114, 110], [115, 101, 116], [115, 112, 97, 119, 110], [115, 116, 114], [115, 121, 110, 99], [116, 104, 105, 115], [116, 104, 114, 111, 119], [116, 114, 117, 101], [116, 114, 121], [117, 110, 105, 116], [118, 97, 114], [119, 104, 105, 108, 101]]
def doublesL : List Bs := [[61, 61], [33, 61], [60, 61], [62, 61], [38, 38], [124, 124]]
def singlesL : Bs := [123, 125, 40, 41, 91, 93, 59, 44, 46, 61, 43, 45, 42, 47, 37, 60, 62, 33]
structure WordD where
  kind : Int
  text : Bs
  n : Int
  at_ : Int
deriving DecidableEq
def plainL (t : Bs) : Option (Int × Bs × Int × Nat) :=
  if t.head?.any digB then (match readL t with | none => none | some v => some (2, t, (v : Int), t.length))
  else if nameL t then (if t ∈ keysL then some (5, t, 0, t.length) else some (1, t, 0, t.length)) else none
def signL (l : Bs) : Option (Int × Bs × Int × Nat) :=
  match doublesL.find? (fun d => d.isPrefixOf l) with
  | some d => some (4, d, 0, 2)
  | none => match l with | [] => none | c :: _ => if c ∈ singlesL then some (4, [c], 0, 1) else none
def wordL (l : Bs) : Option (Int × Bs × Int × Nat) :=
  match l with
  | [] => none
  | c :: r =>
    if c = 34 then (match textL r [] 1 with | none => none | some (t, n) => some (3, t, 0, n))
    else if partB c then plainL (l.takeWhile partB)
    else signL l
theorem textL_n : ∀ (l acc : Bs) (n : Nat) (t : Bs) (m : Nat), textL l acc n = some (t, m) → n < m ∧ m ≤ n + l.length
  | [], acc, n, t, m, h => by simp [textL] at h
  | c :: r, acc, n, t, m, h => by
    rw [textL.eq_def] at h
    simp only at h
    split at h
    · split at h
      · simp at h; obtain ⟨_, rfl⟩ := h; simp
      · cases h
    · split at h
      · cases h
      · split at h
        · split at h
          · cases h
          · split at h
            · cases h
            · have := textL_n _ _ _ _ _ h; simp; omega
        · have := textL_n _ _ _ _ _ h; simp; omega
theorem wordL_n {l : Bs} {k : Int} {t : Bs} {v : Int} {n : Nat} (h : wordL l = some (k, t, v, n)) : 0 < n ∧ n ≤ l.length ∧ k ≠ 0 := by
  cases l with
  | nil => simp [wordL] at h
  | cons c r =>
    rw [wordL.eq_def] at h
    simp only at h
    split at h
    · split at h
      · cases h
      · rename_i h1
        simp only [Option.some.injEq, Prod.mk.injEq] at h
        obtain ⟨rfl, rfl, rfl, rfl⟩ := h
        have := textL_n _ _ _ _ _ h1
        simp; omega
    · split at h
      · rename_i hp
        have hpos : 0 < ((c :: r).takeWhile partB).length := by rw [List.takeWhile_cons, if_pos hp]; simp
        have hle : ((c :: r).takeWhile partB).length ≤ (c :: r).length := (List.takeWhile_prefix _).length_le
        rw [plainL] at h
        split at h
        · split at h
          · cases h
          · simp only [Option.some.injEq, Prod.mk.injEq] at h
            obtain ⟨rfl, rfl, rfl, rfl⟩ := h
            exact ⟨hpos, hle, by decide⟩
        · split at h
          · split at h
            · simp only [Option.some.injEq, Prod.mk.injEq] at h
              obtain ⟨rfl, rfl, rfl, rfl⟩ := h
              exact ⟨hpos, hle, by decide⟩
            · simp only [Option.some.injEq, Prod.mk.injEq] at h
              obtain ⟨rfl, rfl, rfl, rfl⟩ := h
              exact ⟨hpos, hle, by decide⟩
          · cases h
      · rw [signL] at h
        split at h
        · rename_i d hd
          simp only [Option.some.injEq, Prod.mk.injEq] at h
          obtain ⟨rfl, rfl, rfl, rfl⟩ := h
          have hm := List.mem_of_find?_eq_some hd
          have hpre := List.find?_some hd
          have h2 : d.length = 2 := by
            have : ∀ x ∈ doublesL, x.length = 2 := by decide
            exact this d hm
          have := (List.isPrefixOf_iff_prefix.1 hpre).length_le
          exact ⟨by omega, by omega, by decide⟩
        · split at h
          · simp only [Option.some.injEq, Prod.mk.injEq] at h
            obtain ⟨rfl, rfl, rfl, rfl⟩ := h
            simp
          · cases h
def lexFrom (size : Nat) : Nat → Bs → List WordD → List WordD × Int × Int
  | 0, l, acc => (acc, 0, 0)
  | m + 1, l, acc =>
    if l = [] then (acc, 0, 0) else match wordL l with
    | none => ([], ((size - l.length : Nat) : Int), 18)
    | some (k, t, v, n) => lexFrom size m (skipL (l.drop n)) (acc ++ [⟨k, t, v, ((size - l.length : Nat) : Int)⟩])
def lexL (src : Bs) : List WordD × Int × Int := if 16384 < src.length then ([], 0, 6) else lexFrom src.length (src.length + 1) (skipL src) []
theorem lexFrom_more (size : Nat) : ∀ (m m' : Nat) (l : Bs) (acc : List WordD), l.length < m → l.length < m' → lexFrom size m l acc = lexFrom size m' l acc
  | 0, _, l, _, h, _ => by omega
  | _ + 1, 0, l, _, _, h => by omega
  | m + 1, m' + 1, l, acc, h, h' => by
    rw [lexFrom, lexFrom]
    split
    · rfl
    · split
      · rfl
      · rename_i k t v n hw
        obtain ⟨h1, h2, _⟩ := wordL_n hw
        have := skipL_len (l.drop n)
        rw [List.length_drop] at this
        exact lexFrom_more size m m' _ _ (by omega) (by omega)
end Go.Proofs.YtcaigcmbgihhkaaDoor
namespace Go.Proofs.YtcaigcmbgihhkaaDoor
open Go Go.RowKit
set_option linter.unusedVariables false
set_option linter.unusedSimpArgs false
def textN (n : Nat) : Bs := if n < 10 then [UInt8.ofNat (48 + n)] else textN (n / 10) ++ [UInt8.ofNat (48 + n % 10)]
termination_by n
decreasing_by omega
theorem textN_lt {n : Nat} (h : n < 10) : textN n = [UInt8.ofNat (48 + n)] := by rw [textN, if_pos h]
theorem textN_ge {n : Nat} (h : ¬ n < 10) : textN n = textN (n / 10) ++ [UInt8.ofNat (48 + n % 10)] := by rw [textN, if_neg h]
def textZ (n : Int) : Bs := if n < 0 then 45 :: textN (-n).toNat else textN n.toNat
theorem valL_snoc (t : Bs) (c : UInt8) : valL (t ++ [c]) = valL t * 10 + (c.toNat - 48) := by simp [valL, List.foldl_append]
theorem dig_ofNat {d : Nat} (h : d < 10) : (UInt8.ofNat (48 + d)).toNat = 48 + d := by rw [UInt8.toNat_ofNat']; omega
theorem textN_pos (n : Nat) : 0 < (textN n).length := by rw [textN]; split <;> simp
theorem textN_props : ∀ (n : Nat), (textN n).all digB = true ∧ ((textN n).length = 1 ∨ (textN n).head? ≠ some 48) ∧ valL (textN n) = n := by
  intro n
  induction n using Nat.strongRecOn with
  | _ n ih =>
    by_cases h : n < 10
    · rw [textN_lt h]
      refine ⟨?_, .inl rfl, ?_⟩
      · simp [digB, dig_ofNat h]; omega
      · simp only [valL, List.foldl_cons, List.foldl_nil, dig_ofNat h]; omega
    · rw [textN_ge h]
      obtain ⟨h1, h2, h3⟩ := ih (n / 10) (by omega)
      have hd := dig_ofNat (d := n % 10) (by omega)
      refine ⟨?_, .inr ?_, ?_⟩
      · rw [List.all_append, h1]; simp [digB, hd]; omega
      · have hp := textN_pos (n / 10)
        have e : (textN (n / 10) ++ [UInt8.ofNat (48 + n % 10)]).head? = (textN (n / 10)).head? := by
          cases hx : textN (n / 10) with
          | nil => rw [hx] at hp; simp at hp
          | cons a r => rfl
        rw [e]
        rcases h2 with h2 | h2
        · intro h48
          have : textN (n / 10) = [48] := by
            cases hx : textN (n / 10) with
            | nil => rw [hx] at hp; simp at hp
            | cons a r =>
              rw [hx] at h2 h48
              simp at h2 h48
              rw [h48, h2]
          rw [this] at h3
          simp [valL] at h3
          omega
        · exact h2
      · rw [valL_snoc, h3, hd]; omega
theorem textN_len : ∀ (k n : Nat), n < 10 ^ (k + 1) → (textN n).length ≤ k + 1 := by
  intro k
  induction k with
  | zero => intro n h; rw [textN_lt (by simpa using h)]; simp
  | succ k ih =>
    intro n h
    by_cases hn : n < 10
    · rw [textN_lt hn]; simp
    · rw [textN_ge hn, List.length_append, List.length_singleton]
      have := ih (n / 10) (by rw [Nat.pow_succ] at h; exact Nat.div_lt_of_lt_mul (by rw [Nat.mul_comm]; exact h))
      omega
theorem snoc_cases {α : Type} (l : List α) (h : l ≠ []) : ∃ i x, l = i ++ [x] := ⟨l.dropLast, l.getLast h, (List.dropLast_concat_getLast h).symm⟩
theorem valL_pos : ∀ (m : Nat) (t : Bs), t.length = m → t.all digB = true → 0 < t.length → t.head? ≠ some 48 → 0 < valL t := by
  intro m
  induction m with
  | zero => intro t h _ h2 _; omega
  | succ m ih =>
    intro t hl hd hp hh
    obtain ⟨i, c, rfl⟩ := snoc_cases t (by intro e; simp [e] at hl)
    rw [List.all_append] at hd
    simp only [Bool.and_eq_true, List.all_cons, List.all_nil, Bool.and_true] at hd
    rw [valL_snoc]
    cases i with
    | nil =>
      simp only [digB, Bool.and_eq_true, decide_eq_true_eq] at hd
      have : c.toNat ≠ 48 := by
        intro h; apply hh; simp; exact UInt8.toNat_inj.1 h
      simp [valL]; omega
    | cons a r =>
      have := ih (a :: r) (by simp at hl ⊢; omega) hd.1 (by simp) (by simpa using hh)
      omega
theorem textN_of_val : ∀ (m : Nat) (t : Bs), t.length = m → t.all digB = true → 0 < t.length → (t.length = 1 ∨ t.head? ≠ some 48) → textN (valL t) = t := by
  intro m
  induction m with
  | zero => intro t h _ h2 _; omega
  | succ m ih =>
    intro t hl hd hp hh
    obtain ⟨i, c, rfl⟩ := snoc_cases t (by intro e; simp [e] at hl)
    have hd' := hd
    rw [List.all_append] at hd
    simp only [Bool.and_eq_true, List.all_cons, List.all_nil, Bool.and_true] at hd
    have hc := hd.2
    simp only [digB, Bool.and_eq_true, decide_eq_true_eq] at hc
    have hcd : UInt8.ofNat (48 + (c.toNat - 48)) = c := by
      rw [show 48 + (c.toNat - 48) = c.toNat by omega]
      exact UInt8.ofNat_toNat
    rw [valL_snoc]
    cases i with
    | nil =>
      have e : valL ([] : Bs) = 0 := rfl
      rw [e, Nat.zero_mul, Nat.zero_add, textN_lt (by omega), hcd]
      rfl
    | cons a r =>
      have hh2 : (a :: r).head? ≠ some 48 := by
        rcases hh with hh | hh
        · simp at hh
        · simpa using hh
      have hv := valL_pos _ (a :: r) rfl hd.1 (by simp) hh2
      have := ih (a :: r) (by simp at hl ⊢; omega) hd.1 (by simp) (.inr hh2)
      rw [textN_ge (by omega), show (valL (a :: r) * 10 + (c.toNat - 48)) / 10 = valL (a :: r) by omega, this, show (valL (a :: r) * 10 + (c.toNat - 48)) % 10 = c.toNat - 48 by omega, hcd]
theorem readL_text (t : Bs) (n : Int) (h0 : -9223372036854775808 ≤ n) (h1 : n ≤ 9223372036854775807) (hd : t.head?.any digB = true) (h : textZ n = t) : readL t = some n.toNat ∧ 0 ≤ n := by
  by_cases hn : n < 0
  · rw [textZ, if_pos hn] at h
    rw [← h] at hd
    simp [digB] at hd
  · rw [textZ, if_neg hn] at h
    obtain ⟨p1, p2, p3⟩ := textN_props n.toNat
    have p4 := textN_pos n.toNat
    have p5 := textN_len 18 n.toNat (by omega)
    rw [h] at p1 p2 p3 p4 p5
    refine ⟨?_, by omega⟩
    rw [readL, if_pos ⟨p1, p4, p2, p5, by omega⟩, p3]
theorem readL_some {t : Bs} {v : Nat} (h : readL t = some v) : textZ (v : Int) = t ∧ v < 9223372036854775808 ∧ valL t = v ∧ t.all digB = true ∧ t.length ≤ 19 ∧ 0 < t.length := by
  rw [readL] at h
  split at h
  · rename_i hc
    obtain ⟨h1, h2, h3, h4, h5⟩ := hc
    simp only [Option.some.injEq] at h
    subst h
    refine ⟨?_, h5, rfl, h1, h4, h2⟩
    rw [textZ, if_neg (by omega), Int.toNat_natCast]
    exact textN_of_val _ t rfl h1 h2 h3
  · cases h
end Go.Proofs.YtcaigcmbgihhkaaDoor
namespace Go.Proofs.YtcaigcmbgihhkaaDoor
open Go Go.RowKit Go.Proofs.YtcaigcmbgihhkaaDoorW.PrintWords Go.Proofs.YtcaigcmbgihhkaaDoor.PWords
set_option linter.unusedVariables false
set_option linter.unusedSimpArgs false
abbrev bl (s : ByteArray) : Bs := s.data.toList
theorem bl_len (s : ByteArray) : (bl s).length = s.size := by simp [bl]
theorem bt_drop {s : ByteArray} {p : Nat} {c : UInt8} {r : Bs} (h : (bl s).drop p = c :: r) : bt s (p : Int) = (c.toNat : Int) ∧ p < s.size := by
  have hlt : p < (bl s).length := by
    have := congrArg List.length h
    rw [List.length_drop] at this
    simp only [List.length_cons] at this
    omega
  have e : (bl s)[p]? = some c := by
    have := congrArg (fun l => l[0]?) h
    simpa [List.getElem?_drop] using this
  have hlt' : p < s.size := by rw [← bl_len]; exact hlt
  refine ⟨?_, hlt'⟩
  simp only [bt, Int.toNat_natCast]
  rw [dif_pos hlt']
  have : s[p] = c := by
    have h2 : (bl s)[p] = c := by rw [List.getElem?_eq_getElem hlt] at e; exact Option.some.inj e
    exact h2
  rw [this]
theorem drop_nil {s : ByteArray} {p : Nat} (h : (bl s).drop p = []) : s.size ≤ p := by
  rw [← bl_len]; exact List.drop_eq_nil_iff.1 h
theorem drop_step {s : ByteArray} {p : Nat} {c : UInt8} {r : Bs} (h : (bl s).drop p = c :: r) : (bl s).drop (p + 1) = r := by
  rw [← List.drop_drop, h]; rfl
theorem wrap_nat {n : Nat} (h : n ≤ 9223372036854775807) : wrap64 (n : Int) = (n : Int) := by unfold wrap64; omega
theorem wrap_succ {n : Nat} (h : n < 9223372036854775807) : wrap64 ((n : Int) + 1) = ((n + 1 : Nat) : Int) := by unfold wrap64; omega
theorem ext_list (s : ByteArray) (p q : Nat) : bl (s.extract p q) = ((bl s).drop p).take (q - p) := by
  simp [bl, ByteArray.data_extract, List.drop_take, Array.toList_extract]
theorem toList_bl (s : ByteArray) : s.toList = bl s := Lib.toList_data s
theorem bl_inj {a b : ByteArray} (h : bl a = bl b) : a = b := by
  have : a.data = b.data := Array.toList_inj.1 h
  cases a; cases b; simp_all
set_option maxRecDepth 10000 in
theorem letter_tells (c : UInt8) : hornbookref24_letter.f (c.toNat : Int) = some (letB c) := by
  unfold hornbookref24_letter.f letB
  have e : (c == 95) = ((c.toNat : Int) == 95) := by
    rw [Bool.eq_iff_iff]; simp only [beq_iff_eq]
    constructor
    · intro h; subst h; rfl
    · intro h; exact UInt8.toNat_inj.1 (by simpa using (by omega : c.toNat = 95))
  rw [e]
  by_cases h1 : 97 ≤ c.toNat <;> by_cases h2 : c.toNat ≤ 122 <;> by_cases h3 : 65 ≤ c.toNat <;> by_cases h4 : c.toNat ≤ 90 <;> simp [h1, h2, h3, h4] <;> (try split) <;> (try split) <;> (try split) <;> (try split) <;> first | rfl | (exfalso; omega) | simp_all | omega
theorem digit_tells (c : UInt8) : hornbookref24_digit.f (c.toNat : Int) = some (digB c) := by
  unfold hornbookref24_digit.f digB
  by_cases h1 : 48 ≤ c.toNat
  · rw [if_pos (by omega)]
    simp [h1]
    omega
  · rw [if_neg (by omega)]
    simp [h1]
theorem u8_eq (c : UInt8) (k : Nat) (hk : k < 256) : (c = UInt8.ofNat k) ↔ ((c.toNat : Int) = (k : Int)) := by
  constructor
  · intro h; subst h; simp [UInt8.toNat_ofNat']; omega
  · intro h; apply UInt8.toNat_inj.1; simp [UInt8.toNat_ofNat']; omega
theorem begins_tells (s t : ByteArray) (p : Nat) (hp : p ≤ s.size) (hs : s.size ≤ 140737488351232) (ht : t.size ≤ 1000) :
    hornbookref24_begins.f s (p : Int) t = some ((bl t).isPrefixOf ((bl s).drop p)) := by
  unfold hornbookref24_begins.f
  have hw : wrap64 ((s.size : Int) - (p : Int)) = ((s.size - p : Nat) : Int) := by unfold wrap64; omega
  have hw2 : wrap64 ((p : Int) + (t.size : Int)) = ((p + t.size : Nat) : Int) := by unfold wrap64; omega
  rw [hw, hw2]
  by_cases h : t.size ≤ s.size - p
  · rw [if_pos (by omega), if_pos (by omega), if_pos (by omega), if_pos (by omega)]
    congr 1
    rw [Int.toNat_natCast, Int.toNat_natCast, toList_bl, toList_bl, ext_list, Nat.add_sub_cancel_left, ← bl_len t]
    rw [Bool.eq_iff_iff]
    simp only [beq_iff_eq]
    rw [List.isPrefixOf_iff_prefix, List.prefix_iff_eq_take]
    exact ⟨fun h => h.symm, fun h => h.symm⟩
  · rw [if_neg (by omega)]
    congr 1
    symm
    rw [← Bool.not_eq_true, List.isPrefixOf_iff_prefix]
    intro hpre
    have := hpre.length_le
    rw [List.length_drop, bl_len, bl_len] at this
    omega
theorem slashes : bl (⟨#[47, 47]⟩ : ByteArray) = [47, 47] := rfl
theorem two_slash (c : UInt8) (r : Bs) : ([47, 47] : Bs).isPrefixOf (c :: r) = decide (c = 47 ∧ r.head? = some 47) := by
  rw [Bool.eq_iff_iff, List.isPrefixOf_iff_prefix, decide_eq_true_eq]
  constructor
  · rintro ⟨t, h⟩
    cases h
    exact ⟨rfl, rfl⟩
  · rintro ⟨rfl, h⟩
    cases r with
    | nil => cases h
    | cons d t => cases h; exact ⟨t, rfl⟩
theorem blank_tells (s : ByteArray) (x1 : Nat) (hs : s.size ≤ 140737488351232) : ∀ (l : Bs) (p : Nat), (bl s).drop p = l → x1 ≤ p → p ≤ s.size →
    Ev (fun k => hornbookref24_blank.l0 k s (x1 : Int) (p : Int)) ((p + blankN false l - x1 : Nat) : Int) ∧ Ev (fun k => hornbookref24_blank.l1 k s (x1 : Int) (p : Int)) ((p + blankN true l - x1 : Nat) : Int) := by
  intro l
  induction l with
  | nil =>
    intro p hl hx hp
    have hsz := drop_nil hl
    have h0 : Ev (fun k => hornbookref24_blank.l0 k s (x1 : Int) (p : Int)) ((p + blankN false [] - x1 : Nat) : Int) := by
      refine Ev.step (f := fun _ => some _) (fun k => ?_) (Ev.now _)
      rw [hornbookref24_blank.l0, if_neg (by omega)]
      simp only [blankN]
      congr 1
      unfold wrap64; omega
    refine ⟨h0, ?_⟩
    refine Ev.step (f := fun k => hornbookref24_blank.l0 k s (x1 : Int) (p : Int)) (fun k => ?_) h0
    rw [hornbookref24_blank.l1, if_neg (by omega)]
  | cons c r ih =>
    intro p hl hx hp
    obtain ⟨hbt, hlt⟩ := bt_drop hl
    have hnx := drop_step hl
    obtain ⟨i0, i1⟩ := ih (p + 1) hnx (by omega) (by omega)
    have hwr : wrap64 ((p : Int) + 1) = ((p + 1 : Nat) : Int) := wrap_succ (by omega)
    have h0 : Ev (fun k => hornbookref24_blank.l0 k s (x1 : Int) (p : Int)) ((p + blankN false (c :: r) - x1 : Nat) : Int) := by
      have hj : ∀ b, b = blkB c → Ev (fun k => hornbookref24_blank.j1 k s (x1 : Int) (p : Int) b) ((p + blankN false (c :: r) - x1 : Nat) : Int) := by
        intro b hb
        by_cases hbl : blkB c = true
        · rw [hb, hbl]
          refine Ev.step (f := fun k => hornbookref24_blank.l0 k s (x1 : Int) ((p + 1 : Nat) : Int)) (fun k => ?_) ?_
          · rw [hornbookref24_blank.j1, if_pos rfl, hwr]
          · have e : p + blankN false (c :: r) - x1 = p + 1 + blankN false r - x1 := by rw [blankN, if_pos hbl]; omega
            rw [e]; exact i0
        · rw [hb]
          have hbf : blkB c = false := by simpa using hbl
          rw [hbf]
          have hbeg := begins_tells s ⟨#[47, 47]⟩ p hp hs (by simp [ByteArray.size])
          rw [hl, slashes, two_slash] at hbeg
          by_cases hsl : c = 47 ∧ r.head? = some 47
          · have hc10 : ¬ c = 10 := by rw [hsl.1]; decide
            refine Ev.step (f := fun k => hornbookref24_blank.l1 k s (x1 : Int) (p : Int)) (fun k => ?_) ?_
            · rw [hornbookref24_blank.j1, if_neg (by simp), hbeg, decide_eq_true hsl]
              simp only [Option.bind_some, if_true]
            · refine Ev.step (f := fun k => hornbookref24_blank.l1 k s (x1 : Int) ((p + 1 : Nat) : Int)) (fun k => ?_) ?_
              · have h10 : ¬ bt s (p : Int) = 10 := by rw [hbt, hsl.1]; decide
                rw [hornbookref24_blank.l1, if_pos (by omega), if_pos (by omega), if_neg h10, hwr]
              · have e : p + blankN false (c :: r) - x1 = p + 1 + blankN true r - x1 := by rw [blankN, if_neg (by simp [hbf]), if_pos hsl]; omega
                rw [e]; exact i1
          · refine Ev.step (f := fun _ => some _) (fun k => ?_) (Ev.now _)
            rw [hornbookref24_blank.j1, if_neg (by simp), hbeg, decide_eq_false hsl]
            simp only [Option.bind_some]
            rw [if_neg (by simp), blankN, if_neg (by simp [hbf]), if_neg hsl]
            congr 1
            unfold wrap64; omega
      have e32 := u8_eq c 32 (by omega)
      have e9 := u8_eq c 9 (by omega)
      have e10 := u8_eq c 10 (by omega)
      have e13 := u8_eq c 13 (by omega)
      refine Ev.step (f := fun k => hornbookref24_blank.j1 k s (x1 : Int) (p : Int) (blkB c)) (fun k => ?_) (hj _ rfl)
      rw [hornbookref24_blank.l0, if_pos (by omega), if_pos (by omega), hbt]
      by_cases h32 : (c.toNat : Int) = 32
      · rw [if_pos h32]; congr 1; rw [e32.2 h32]; rfl
      · rw [if_neg h32]
        by_cases h9 : (c.toNat : Int) = 9
        · rw [if_pos h9]; congr 1; rw [e9.2 h9]; rfl
        · rw [if_neg h9]
          by_cases h10 : (c.toNat : Int) = 10
          · rw [if_pos h10]; congr 1; rw [e10.2 h10]; rfl
          · rw [if_neg h10]
            congr 1
            have g32 : (c == 32) = false := beq_eq_false_iff_ne.2 (fun h => h32 (e32.1 h))
            have g9 : (c == 9) = false := beq_eq_false_iff_ne.2 (fun h => h9 (e9.1 h))
            have g10 : (c == 10) = false := beq_eq_false_iff_ne.2 (fun h => h10 (e10.1 h))
            simp only [blkB, g32, g9, g10, Bool.false_or]
            rw [Bool.eq_iff_iff]
            simp only [beq_iff_eq]
            exact e13.symm
    refine ⟨h0, ?_⟩
    by_cases hc10 : c = 10
    · refine Ev.step (f := fun k => hornbookref24_blank.l0 k s (x1 : Int) (p : Int)) (fun k => ?_) ?_
      · rw [hornbookref24_blank.l1, if_pos (by omega), if_pos (by omega), if_pos (by rw [hbt, hc10]; rfl)]
      · have e : blankN true (c :: r) = blankN false (c :: r) := by rw [blankN, if_pos hc10, blankN, if_pos (by rw [hc10]; rfl)]
        rw [e]; exact h0
    · refine Ev.step (f := fun k => hornbookref24_blank.l1 k s (x1 : Int) ((p + 1 : Nat) : Int)) (fun k => ?_) ?_
      · have h10 : ¬ bt s (p : Int) = 10 := by
          rw [hbt]; intro h; exact hc10 ((u8_eq c 10 (by omega)).2 h)
        rw [hornbookref24_blank.l1, if_pos (by omega), if_pos (by omega), if_neg h10, hwr]
      · have e : p + blankN true (c :: r) - x1 = p + 1 + blankN true r - x1 := by rw [blankN, if_neg hc10]; omega
        rw [e]; exact i1
end Go.Proofs.YtcaigcmbgihhkaaDoor
namespace Go.Proofs.YtcaigcmbgihhkaaDoor
open Go Go.RowKit Go.Proofs.YtcaigcmbgihhkaaDoorW.PrintWords Go.Proofs.YtcaigcmbgihhkaaDoor.PWords
set_option linter.unusedVariables false
set_option linter.unusedSimpArgs false
def nums (l : Bs) : List Int := l.map fun c => (c.toNat : Int)
theorem nums_snoc (l : Bs) (c : UInt8) : nums l ++ [(c.toNat : Int)] = nums (l ++ [c]) := by simp [nums]
theorem nums_len (l : Bs) : (nums l).length = l.length := by simp [nums]
theorem str_nums (l : Bs) : strOfNums (nums l) = ⟨l.toArray⟩ := by
  simp only [strOfNums, nums, List.map_map]
  congr 2
  conv => rhs; rw [← List.map_id l]
  apply List.map_congr_left
  intro c _
  simp
def tres (x1 : Nat) : Option (Bs × Nat) → Int × ByteArray × Int × Int × Int
  | none => (0, ⟨#[]⟩, 0, 0, 0)
  | some (t, n) => (3, ⟨t.toArray⟩, 0, (x1 : Int), (n : Int))
theorem text_tells (s : ByteArray) (x1 : Nat) (hs : s.size ≤ 140737488351232) : ∀ (m : Nat) (l acc : Bs) (p : Nat), l.length = m → (bl s).drop p = l → x1 ≤ p → p ≤ s.size → acc.length ≤ p →
    Ev (fun k => hornbookref24_text.l0 k s (x1 : Int) (nums acc) (p : Int)) (tres x1 (textL l acc (p - x1))) := by
  intro m
  induction m using Nat.strongRecOn with
  | _ m ih =>
  intro l acc p hm hl hx hp hacc
  cases l with
  | nil =>
    have hsz := drop_nil hl
    refine Ev.step (f := fun _ => some _) (fun k => ?_) (Ev.now _)
    rw [hornbookref24_text.l0, if_neg (by omega)]
    rfl
  | cons c r =>
    obtain ⟨hbt, hlt⟩ := bt_drop hl
    have hnx := drop_step hl
    have hwr : wrap64 ((p : Int) + 1) = ((p + 1 : Nat) : Int) := wrap_succ (by omega)
    have hrl : r.length < m := by simp at hm; omega
    have e34 := u8_eq c 34 (by omega)
    have e92 := u8_eq c 92 (by omega)
    rw [textL.eq_def]
    simp only
    by_cases h34 : c = 34
    · rw [if_pos h34]
      by_cases h64 : acc.length ≤ 64
      · rw [if_pos h64]
        refine Ev.step (f := fun _ => some _) (fun k => ?_) (Ev.now _)
        rw [hornbookref24_text.l0, if_pos (by omega), if_pos (by omega), if_pos (by rw [hbt]; exact e34.1 h34), nums_len, if_neg (by omega), str_nums, hwr]
        simp only [tres]
        congr 5
        unfold wrap64; omega
      · rw [if_neg h64]
        refine Ev.step (f := fun _ => some _) (fun k => ?_) (Ev.now _)
        rw [hornbookref24_text.l0, if_pos (by omega), if_pos (by omega), if_pos (by rw [hbt]; exact e34.1 h34), nums_len, if_pos (by omega)]
        rfl
    · rw [if_neg h34]
      have g34 : ¬ bt s (p : Int) = 34 := by rw [hbt]; intro h; exact h34 (e34.2 h)
      by_cases hr : c.toNat < 32 ∨ 126 < c.toNat
      · rw [if_pos hr]
        refine Ev.step (f := fun k => hornbookref24_text.j1 k s (x1 : Int) (nums acc) (p : Int) (bt s (p : Int)) true) (fun k => ?_) ?_
        · rw [hornbookref24_text.l0, if_pos (by omega), if_pos (by omega), if_neg g34]
          by_cases h32 : bt s (p : Int) < 32
          · rw [if_pos h32]
          · rw [if_neg h32, decide_eq_true (by rw [hbt] at h32 ⊢; omega)]
        · refine Ev.step (f := fun _ => some _) (fun k => ?_) (Ev.now _)
          rw [hornbookref24_text.j1, if_pos rfl]
          rfl
      · rw [if_neg hr]
        refine Ev.step (f := fun k => hornbookref24_text.j1 k s (x1 : Int) (nums acc) (p : Int) (bt s (p : Int)) false) (fun k => ?_) ?_
        · rw [hornbookref24_text.l0, if_pos (by omega), if_pos (by omega), if_neg g34, if_neg (by rw [hbt]; omega), decide_eq_false (by rw [hbt]; omega)]
        · by_cases h92 : c = 92
          · rw [if_pos h92]
            have g92 : bt s (p : Int) = 92 := by rw [hbt]; exact e92.1 h92
            cases r with
            | nil =>
              have hsz := drop_nil hnx
              refine Ev.step (f := fun _ => some _) (fun k => ?_) (Ev.now _)
              rw [hornbookref24_text.j1, if_neg (by simp), if_pos g92, hwr, if_pos (by omega)]
              rfl
            | cons d r2 =>
              obtain ⟨hbd, hltd⟩ := bt_drop hnx
              have hnd : (bl s).drop (p + 2) = r2 := by have := drop_step hnx; rwa [Nat.add_assoc] at this
              have hwr2 : wrap64 (((p + 1 : Nat) : Int) + 1) = ((p + 2 : Nat) : Int) := by clear hwr; unfold wrap64; omega
              have HW2 := Lib.hid hwr2
              clear hwr2
              have a1 : ((p + 1 : Nat) : Int) < (s.size : Int) := by omega
              have a2 : (0 : Int) ≤ ((p + 1 : Nat) : Int) := by omega
              have key : ∀ (e : UInt8), (∀ k, hornbookref24_text.j1 (k + 1) s (x1 : Int) (nums acc) (p : Int) (bt s (p : Int)) false = hornbookref24_text.l0 k s (x1 : Int) (nums acc ++ [(e.toNat : Int)]) ((p + 2 : Nat) : Int)) →
                  Ev (fun k => hornbookref24_text.j1 k s (x1 : Int) (nums acc) (p : Int) (bt s (p : Int)) false) (tres x1 (textL r2 (acc ++ [e]) (p - x1 + 2))) := by
                intro e he
                refine Ev.step he ?_
                rw [nums_snoc, show p - x1 + 2 = p + 2 - x1 by omega]
                exact ih r2.length (by simp at hm; omega) r2 (acc ++ [e]) (p + 2) rfl hnd (by omega) (by omega) (by simp; omega)
              have hln : (nums acc).length < 140737488355328 := by rw [nums_len]; omega
              simp only
              by_cases h110 : d = 110
              · rw [escL, if_pos h110]
                refine key 10 (fun k => ?_)
                rw [hornbookref24_text.j1, if_neg (by simp), if_pos g92, hwr, if_neg (by omega), if_pos a2, if_pos a1, if_pos (by rw [hbd, h110]; rfl), if_pos hln, HW2.out]
                rfl
              · have g110 : ¬ bt s ((p + 1 : Nat) : Int) = 110 := by rw [hbd]; intro h; exact h110 ((u8_eq d 110 (by omega)).2 h)
                by_cases h116 : d = 116
                · rw [escL, if_neg h110, if_pos h116]
                  refine key 9 (fun k => ?_)
                  rw [hornbookref24_text.j1, if_neg (by simp), if_pos g92, hwr, if_neg (by omega), if_pos a2, if_pos a1, if_neg g110, if_pos (by rw [hbd, h116]; rfl), if_pos hln, HW2.out]
                  rfl
                · have g116 : ¬ bt s ((p + 1 : Nat) : Int) = 116 := by rw [hbd]; intro h; exact h116 ((u8_eq d 116 (by omega)).2 h)
                  by_cases hq : d = 34
                  · rw [escL, if_neg h110, if_neg h116, if_pos (.inl hq)]
                    refine key d (fun k => ?_)
                    rw [hornbookref24_text.j1, if_neg (by simp), if_pos g92, hwr, if_neg (by omega), if_pos a2, if_pos a1, if_neg g110, if_neg g116, if_pos (by rw [hbd, hq]; rfl), if_pos hln, HW2.out, hbd]
                  · have gq : ¬ bt s ((p + 1 : Nat) : Int) = 34 := by rw [hbd]; intro h; exact hq ((u8_eq d 34 (by omega)).2 h)
                    by_cases hb : d = 92
                    · rw [escL, if_neg h110, if_neg h116, if_pos (.inr hb)]
                      refine key d (fun k => ?_)
                      rw [hornbookref24_text.j1, if_neg (by simp), if_pos g92, hwr, if_neg (by omega), if_pos a2, if_pos a1, if_neg g110, if_neg g116, if_neg gq, if_pos (by rw [hbd, hb]; rfl), if_pos hln, HW2.out, hbd]
                    · have gb : ¬ bt s ((p + 1 : Nat) : Int) = 92 := by rw [hbd]; intro h; exact hb ((u8_eq d 92 (by omega)).2 h)
                      rw [escL, if_neg h110, if_neg h116, if_neg (by rintro (h | h); exact hq h; exact hb h)]
                      refine Ev.step (f := fun _ => some _) (fun k => ?_) (Ev.now _)
                      rw [hornbookref24_text.j1, if_neg (by simp), if_pos g92, hwr, if_neg (by omega), if_pos a2, if_pos a1, if_neg g110, if_neg g116, if_neg gq, if_neg gb]
                      rfl
          · rw [if_neg h92]
            have g92 : ¬ bt s (p : Int) = 92 := by rw [hbt]; intro h; exact h92 (e92.2 h)
            refine Ev.step (f := fun k => hornbookref24_text.l0 k s (x1 : Int) (nums (acc ++ [c])) ((p + 1 : Nat) : Int)) (fun k => ?_) ?_
            · rw [hornbookref24_text.j1, if_neg (by simp), if_neg g92, if_pos (by rw [nums_len]; omega), hbt, nums_snoc, hwr]
            · rw [show p - x1 + 1 = p + 1 - x1 by omega]
              exact ih r.length hrl r (acc ++ [c]) (p + 1) rfl hnx (by omega) (by omega) (by simp; omega)
def nameAt (p : Nat) (l : Bs) : Bool := !(decide (p = 0) && l.head?.any digB) && l.all partB
theorem nameAt_cons (p : Nat) (c : UInt8) (r : Bs) : nameAt p (c :: r) = ((letB c || (digB c && !decide (p = 0))) && nameAt (p + 1) r) := by
  have hd : digB c = true → letB c = false := by
    intro h
    simp only [digB, Bool.and_eq_true, decide_eq_true_eq] at h
    have h95 : (c == 95) = false := beq_eq_false_iff_ne.2 (fun e => by rw [e] at h; simp at h)
    simp only [letB, h95, Bool.or_false]
    rw [Bool.or_eq_false_iff]
    constructor
    · rw [Bool.and_eq_false_iff]; left; simp; omega
    · rw [Bool.and_eq_false_iff]; left; simp; omega
  simp only [nameAt, List.all_cons, List.head?_cons, Option.any_some, partB, show decide (p + 1 = 0) = false by simp, Bool.false_and, Bool.not_false, Bool.true_and]
  cases h1 : digB c
  · cases letB c <;> simp
  · rw [hd h1]; cases decide (p = 0) <;> simp
set_option maxRecDepth 10000 in
set_option maxHeartbeats 1000000 in
theorem name_round (s : ByteArray) (c : UInt8) (p : Nat) (hbt : bt s (p : Int) = (c.toNat : Int)) (hlt : p < s.size) (hs : s.size ≤ 140737488351232) (k : Nat) :
    hornbookref01_Name.l0 (k + 1) s (p : Int) = if (letB c || (digB c && !decide (p = 0))) = true then hornbookref01_Name.l0 k s ((p + 1 : Nat) : Int) else some false := by
  have hwr : wrap64 ((p : Int) + 1) = ((p + 1 : Nat) : Int) := wrap_succ (by omega)
  rw [hornbookref01_Name.l0, if_pos (by omega), if_pos (by omega), hbt, hwr]
  have e95 := u8_eq c 95 (by omega)
  have hC : ((letB c || (digB c && !decide (p = 0))) = true) ↔ ((97 ≤ c.toNat ∧ c.toNat ≤ 122) ∨ (65 ≤ c.toNat ∧ c.toNat ≤ 90) ∨ (c.toNat : Int) = 95 ∨ (48 ≤ c.toNat ∧ c.toNat ≤ 57 ∧ p ≠ 0)) := by
    have h95 : (c == 95) = true ↔ (c.toNat : Int) = 95 := by rw [beq_iff_eq]; exact e95
    simp only [letB, digB, Bool.or_eq_true, Bool.and_eq_true, decide_eq_true_eq, h95, Bool.not_eq_true', decide_eq_false_iff_not]
    omega
  generalize (letB c || (digB c && !decide (p = 0))) = b at hC ⊢
  generalize c.toNat = n at hC ⊢
  clear e95 hbt
  have hT : ((97 ≤ n ∧ n ≤ 122) ∨ (65 ≤ n ∧ n ≤ 90) ∨ (n : Int) = 95 ∨ (48 ≤ n ∧ n ≤ 57 ∧ p ≠ 0)) → b = true := hC.2
  have hF : ¬ ((97 ≤ n ∧ n ≤ 122) ∨ (65 ≤ n ∧ n ≤ 90) ∨ (n : Int) = 95 ∨ (48 ≤ n ∧ n ≤ 57 ∧ p ≠ 0)) → b = false := fun h => by
    cases b
    · rfl
    · exact absurd (hC.1 rfl) h
  clear hC
  have hcl : (97 ≤ n ∧ n ≤ 122) ∨ (65 ≤ n ∧ n ≤ 90) ∨ n = 95 ∨ (48 ≤ n ∧ n ≤ 57 ∧ p ≠ 0) ∨ (48 ≤ n ∧ n ≤ 57 ∧ p = 0) ∨ n < 48 ∨ (58 ≤ n ∧ n ≤ 64) ∨ (91 ≤ n ∧ n ≤ 94) ∨ n = 96 ∨ 122 < n := by omega
  rcases hcl with h | h | h | h | h | h | h | h | h | h
  · rw [hT (by omega)]; repeat (first | rw [if_pos (by omega)] | rw [if_neg (by omega)])
    rw [if_pos rfl]
  · rw [hT (by omega)]; repeat (first | rw [if_pos (by omega)] | rw [if_neg (by omega)])
    rw [if_pos rfl]
  · rw [hT (by omega)]; repeat (first | rw [if_pos (by omega)] | rw [if_neg (by omega)])
    rw [if_pos rfl]
  · rw [hT (by omega)]; repeat (first | rw [if_pos (by omega)] | rw [if_neg (by omega)])
    rw [if_pos rfl]
  all_goals
    rw [hF (by omega)]
    repeat (first | rw [if_pos (by omega)] | rw [if_neg (by omega)])
    rfl
theorem name_from (s : ByteArray) (hs : s.size ≤ 140737488351232) : ∀ (l : Bs) (p : Nat), (bl s).drop p = l → p ≤ s.size → Ev (fun k => hornbookref01_Name.l0 k s (p : Int)) (nameAt p l) := by
  intro l
  induction l with
  | nil =>
    intro p hl hp
    have hsz := drop_nil hl
    refine Ev.step (f := fun _ => some _) (fun k => ?_) (Ev.now _)
    rw [hornbookref01_Name.l0, if_neg (by omega)]
    simp [nameAt]
  | cons c r ih =>
    intro p hl hp
    obtain ⟨hbt, hlt⟩ := bt_drop hl
    have hnx := drop_step hl
    rw [nameAt_cons]
    by_cases hb : (letB c || (digB c && !decide (p = 0))) = true
    · rw [hb, Bool.true_and]
      refine Ev.step (f := fun k => hornbookref01_Name.l0 k s ((p + 1 : Nat) : Int)) (fun k => ?_) (ih (p + 1) hnx (by omega))
      rw [name_round s c p hbt hlt hs, if_pos hb]
    · rw [Bool.not_eq_true] at hb
      rw [hb, Bool.false_and]
      refine Ev.step (f := fun _ => some _) (fun k => ?_) (Ev.now _)
      rw [name_round s c p hbt hlt hs, if_neg (by simp [hb])]
theorem nameL_at (t : Bs) (h1 : 0 < t.length) (h2 : t.length ≤ 24) : nameL t = nameAt 0 t := by simp [nameL, nameAt, h1, h2]
theorem name_tells (s : ByteArray) (hs : s.size ≤ 140737488351232) : Ev (fun k => hornbookref01_Name.f k s) (nameL (bl s)) := by
  by_cases h0 : s.size < 1
  · refine Ev.congr (f := fun k => hornbookref01_Name.j0 k s true) (fun k => by rw [hornbookref01_Name.f, if_pos (by omega)]) ?_
    refine Ev.step (f := fun _ => some false) (fun k => by rw [hornbookref01_Name.j0, if_pos rfl]) ?_
    have : nameL (bl s) = false := by simp [nameL, bl_len]; omega
    rw [this]; exact Ev.now _
  · by_cases h24 : 24 < s.size
    · refine Ev.congr (f := fun k => hornbookref01_Name.j0 k s true) (fun k => by rw [hornbookref01_Name.f, if_neg (by omega), decide_eq_true (by omega)]) ?_
      refine Ev.step (f := fun _ => some false) (fun k => by rw [hornbookref01_Name.j0, if_pos rfl]) ?_
      have : nameL (bl s) = false := by
        simp only [nameL]; rw [bl_len, show decide (s.size ≤ 24) = false by simp; omega]; simp
      rw [this]; exact Ev.now _
    · refine Ev.congr (f := fun k => hornbookref01_Name.j0 k s false) (fun k => by rw [hornbookref01_Name.f, if_neg (by omega), decide_eq_false (by omega)]) ?_
      refine Ev.step (f := fun k => hornbookref01_Name.l0 k s 0) (fun k => by rw [hornbookref01_Name.j0, if_neg (by simp)]) ?_
      rw [nameL_at _ (by rw [bl_len]; omega) (by rw [bl_len]; omega)]
      exact name_from s hs (bl s) 0 (by simp) (by omega)
end Go.Proofs.YtcaigcmbgihhkaaDoor
namespace Go.Proofs.YtcaigcmbgihhkaaDoor
open Go Go.RowKit Go.Proofs.YtcaigcmbgihhkaaDoorW.PrintWords Go.Proofs.YtcaigcmbgihhkaaDoor.PWords
set_option linter.unusedVariables false
set_option linter.unusedSimpArgs false
theorem bl_append (a b : ByteArray) : bl (a ++ b) = bl a ++ bl b := by simp [bl, ByteArray.data_append]
theorem textN_short (n : Nat) (h : n < 9223372036854775808) : (textN n).length ≤ 19 := textN_len 18 n (by omega)
theorem ten_digits (n : Nat) (h : n < 10) : bl ((⟨#[48, 49, 50, 51, 52, 53, 54, 55, 56, 57]⟩ : ByteArray).extract n (n + 1)) = [UInt8.ofNat (48 + n)] := by
  have : ∀ n : Fin 10, bl ((⟨#[48, 49, 50, 51, 52, 53, 54, 55, 56, 57]⟩ : ByteArray).extract n.val (n.val + 1)) = [UInt8.ofNat (48 + n.val)] := by decide
  exact this ⟨n, h⟩
theorem numText_nat : ∀ (n : Nat), n < 9223372036854775808 → ∃ s, Ev (fun k => hornbookref14_Text.f k (n : Int)) s ∧ bl s = textN n := by
  intro n
  induction n using Nat.strongRecOn with
  | _ n ih =>
  intro hn
  by_cases h10 : n < 10
  · refine ⟨_, Ev.step (f := fun _ => some _) (fun k => ?_) (Ev.now ((⟨#[48, 49, 50, 51, 52, 53, 54, 55, 56, 57]⟩ : ByteArray).extract n (n + 1))), ?_⟩
    · have hw : wrap64 ((n : Int) + 1) = ((n + 1 : Nat) : Int) := wrap_succ (by omega)
      rw [hornbookref14_Text.f, if_neg (by omega), if_neg (by omega), if_pos (by omega), if_pos (by omega), hw, if_pos (by omega), if_pos (by omega), Int.toNat_natCast, Int.toNat_natCast]
    · rw [ten_digits n h10, textN_lt h10]
  · obtain ⟨s1, e1, b1⟩ := ih (n / 10) (by omega) (by omega)
    obtain ⟨s2, e2, b2⟩ := ih (n % 10) (by omega) (by omega)
    have hl1 := textN_short (n / 10) (by omega)
    have hl2 := textN_short (n % 10) (by omega)
    refine ⟨s1 ++ s2, Ev.step (f := fun k => (hornbookref14_Text.f k ((n / 10 : Nat) : Int)).bind fun t122 => (hornbookref14_Text.f k ((n % 10 : Nat) : Int)).bind fun t123 => if t122.size + t123.size ≤ 9223372036854775807 then some (t122 ++ t123) else none) (fun k => ?_) ?_, ?_⟩
    · have hw : wrap64 (Int.tdiv (n : Int) 10) = ((n / 10 : Nat) : Int) := by
        have : Int.tdiv (n : Int) 10 = ((n / 10 : Nat) : Int) := rfl
        rw [this]; exact wrap_nat (by omega)
      have hm : Int.tmod (n : Int) 10 = ((n % 10 : Nat) : Int) := rfl
      rw [hornbookref14_Text.f, if_neg (by omega), if_neg (by omega), if_neg (by omega), hw, hm]
    · refine Ev.bind e1 (Ev.bind e2 ?_)
      rw [← b1, bl_len] at hl1
      rw [← b2, bl_len] at hl2
      refine Ev.congr (f := fun _ => some (s1 ++ s2)) (fun k => ?_) (Ev.now _)
      rw [if_pos (by omega)]
    · rw [bl_append, b1, b2, textN_ge h10, textN_lt (n := n % 10) (by omega)]
theorem numText_tells (n : Int) (h0 : -9223372036854775808 ≤ n) (h1 : n ≤ 9223372036854775807) : ∃ s, Ev (fun k => hornbookref14_Text.f k n) s ∧ bl s = textZ n := by
  by_cases hmin : n = -9223372036854775808
  · subst hmin
    refine ⟨_, Ev.step (f := fun _ => some _) (fun k => by rw [hornbookref14_Text.f, if_pos rfl]) (Ev.now _), ?_⟩
    rw [textZ, if_pos (by decide)]
    have : ∀ m : Nat, m < 10 → textN m = [UInt8.ofNat (48 + m)] := fun m h => textN_lt h
    rw [show (-(-9223372036854775808 : Int)).toNat = 9223372036854775808 by decide]
    iterate 18 rw [textN_ge (by omega)]
    rw [textN_lt (by omega)]
    rfl
  · by_cases hneg : n < 0
    · obtain ⟨m, rfl⟩ : ∃ m : Nat, n = -(m : Int) := ⟨(-n).toNat, by omega⟩
      obtain ⟨s1, e1, b1⟩ := numText_nat m (by omega)
      have hl1 := textN_short m (by omega)
      refine ⟨(⟨#[45]⟩ : ByteArray) ++ s1, Ev.step (f := fun k => (hornbookref14_Text.f k (m : Int)).bind fun t121 => if 1 + t121.size ≤ 9223372036854775807 then some ((⟨#[45]⟩ : ByteArray) ++ t121) else none) (fun k => ?_) ?_, ?_⟩
      · have hw : wrap64 (-(-(m : Int))) = (m : Int) := by unfold wrap64; omega
        rw [hornbookref14_Text.f, if_neg hmin, if_pos hneg, hw]
      · refine Ev.bind e1 ?_
        rw [← b1, bl_len] at hl1
        refine Ev.congr (f := fun _ => some _) (fun k => ?_) (Ev.now _)
        rw [if_pos (by omega)]
      · rw [bl_append, b1, textZ, if_pos hneg, Int.neg_neg, Int.toNat_natCast]
        rfl
    · obtain ⟨m, rfl⟩ : ∃ m : Nat, n = (m : Int) := ⟨n.toNat, by omega⟩
      obtain ⟨s1, e1, b1⟩ := numText_nat m (by omega)
      exact ⟨s1, e1, by rw [b1, textZ, if_neg hneg, Int.toNat_natCast]⟩
def readF (x : Int) (c : UInt8) : Int := if digB c then wrap64 (wrap64 (x * 10) - ((c.toNat - 48 : Nat) : Int)) else x
theorem wrap_range (n : Int) : -9223372036854775808 ≤ wrap64 n ∧ wrap64 n ≤ 9223372036854775807 := by unfold wrap64; omega
theorem readF_val : ∀ (m : Nat) (t : Bs), t.length = m → t.all digB = true → valL t < 9223372036854775808 → t.foldl readF 0 = -(valL t : Int) := by
  intro m
  induction m with
  | zero => intro t h _ _; rw [List.eq_nil_of_length_eq_zero h]; rfl
  | succ m ih =>
    intro t hl hd hv
    obtain ⟨i, c, rfl⟩ := snoc_cases t (by intro e; simp [e] at hl)
    rw [List.all_append] at hd
    simp only [Bool.and_eq_true, List.all_cons, List.all_nil, Bool.and_true] at hd
    rw [valL_snoc] at hv ⊢
    rw [List.foldl_append, List.foldl_cons, List.foldl_nil, ih i (by simpa using hl) hd.1 (by omega), readF, if_pos hd.2]
    have e1 : wrap64 (-(valL i : Int) * 10) = -((valL i * 10 : Nat) : Int) := by unfold wrap64; omega
    rw [e1]
    unfold wrap64
    omega
theorem read_loop (s : ByteArray) (hs : s.size ≤ 140737488351232) (R : Int × Int) : ∀ (l : Bs) (p : Nat) (x : Int), (bl s).drop p = l → p ≤ s.size →
    Ev (fun k => hornbookref14_Read.l0 k s (l.foldl readF x) (s.size : Int)) R → Ev (fun k => hornbookref14_Read.l0 k s x (p : Int)) R := by
  intro l
  induction l with
  | nil =>
    intro p x hl hp h
    have : p = s.size := by have := drop_nil hl; omega
    subst this
    exact h
  | cons c r ih =>
    intro p x hl hp h
    obtain ⟨hbt, hlt⟩ := bt_drop hl
    have hnx := drop_step hl
    rw [List.foldl_cons] at h
    refine Ev.step (f := fun k => hornbookref14_Read.l0 k s (readF x c) ((p + 1 : Nat) : Int)) (fun k => ?_) (ih (p + 1) (readF x c) hnx (by omega) h)
    have hwr : wrap64 ((p : Int) + 1) = ((p + 1 : Nat) : Int) := wrap_succ (by omega)
    rw [hornbookref14_Read.l0, if_pos (by omega), if_pos (by omega), hbt, hwr]
    clear hwr
    by_cases h1 : 48 ≤ c.toNat
    · rw [if_pos (by omega)]
      by_cases h2 : c.toNat ≤ 57
      · rw [if_pos (by omega), readF, if_pos (by simp [digB, h1, h2]), show ((c.toNat : Int) - 48) % 256 = ((c.toNat - 48 : Nat) : Int) by omega]
      · rw [if_neg (by omega), readF, if_neg (by simp [digB]; omega)]
    · rw [if_neg (by omega), readF, if_neg (by simp [digB]; omega)]
def rres : Option Nat → Int × Int
  | some v => ((v : Int), 0)
  | none => (0, 5)
theorem read_tells (s : ByteArray) (hs : s.size ≤ 140737488351232) (hd : (bl s).head?.any digB = true) : Ev (fun k => hornbookref14_Read.f k s) (rres (readL (bl s))) := by
  by_cases h20 : 20 < s.size
  · have : readL (bl s) = none := by
      cases hr : readL (bl s) with
      | none => rfl
      | some v =>
        obtain ⟨_, _, _, _, h5, _⟩ := readL_some hr
        rw [bl_len] at h5; omega
    rw [this]
    exact Ev.congr (f := fun _ => some _) (fun k => by rw [hornbookref14_Read.f, if_pos (by omega)]; rfl) (Ev.now _)
  · refine Ev.congr (f := fun k => hornbookref14_Read.l0 k s 0 ((0 : Nat) : Int)) (fun k => by rw [hornbookref14_Read.f, if_neg (by omega)]; rfl) ?_
    refine read_loop s hs _ (bl s) 0 0 (by simp) (by omega) ?_
    obtain ⟨X, hX⟩ : ∃ X, X = (bl s).foldl readF 0 := ⟨_, rfl⟩
    rw [← hX]
    have hpos : 0 < s.size := by
      rw [← bl_len]
      cases h : bl s with
      | nil => rw [h] at hd; simp at hd
      | cons a r => simp
    have h45 : (bt s 0 != 45) = true := by
      cases h : bl s with
      | nil => rw [h] at hd; simp at hd
      | cons a r =>
        have hb := (bt_drop (s := s) (p := 0) (by rw [List.drop_zero]; exact h)).1
        rw [h] at hd
        simp only [List.head?_cons, Option.any_some, digB, Bool.and_eq_true, decide_eq_true_eq] at hd
        rw [show (0 : Int) = ((0 : Nat) : Int) from rfl, hb]
        simp only [bne_iff_ne, ne_eq]
        omega
    refine Ev.step (f := fun k => hornbookref14_Read.j1 k s X true) (fun k => ?_) ?_
    · rw [hornbookref14_Read.l0, if_neg (by omega), if_neg (by omega), if_pos (by omega), h45]
    · have hrg := wrap_range (-X)
      obtain ⟨t, ht, hb⟩ := numText_tells (wrap64 (-X)) hrg.1 hrg.2
      refine Ev.step (f := fun k => (hornbookref14_Text.f k (wrap64 (-X))).bind fun t124 => if t124.toList = s.toList then some (wrap64 (-X), 0) else some (0, 5)) (fun k => by rw [hornbookref14_Read.j1, if_pos rfl]) ?_
      refine Ev.bind ht ?_
      have e : (if t.toList = s.toList then some (wrap64 (-X), 0) else some ((0 : Int), (5 : Int))) = some (rres (readL (bl s))) := by
        rw [toList_bl, toList_bl, hb]
        by_cases he : textZ (wrap64 (-X)) = bl s
        · rw [if_pos he]
          obtain ⟨h1, h2⟩ := readL_text (bl s) _ hrg.1 hrg.2 hd he
          rw [h1, rres]
          congr 2
          omega
        · rw [if_neg he]
          cases hr : readL (bl s) with
          | none => rfl
          | some v =>
            exfalso
            obtain ⟨h1, h2, h3, h4, h5, h6⟩ := readL_some hr
            have hv := readF_val _ (bl s) rfl h4 (by rw [h3]; exact h2)
            rw [h3, ← hX] at hv
            apply he
            rw [hv]
            have : wrap64 (-(-(v : Int))) = (v : Int) := by clear hrg ht hb he; unfold wrap64; omega
            rw [this]
            exact h1
      exact Ev.congr (f := fun _ => some _) (fun k => e) (Ev.now _)
end Go.Proofs.YtcaigcmbgihhkaaDoor
namespace Go.Proofs.YtcaigcmbgihhkaaDoor
open Go Go.RowKit Go.Proofs.YtcaigcmbgihhkaaDoorW.PrintWords Go.Proofs.YtcaigcmbgihhkaaDoor.PWords
set_option linter.unusedVariables false
set_option linter.unusedSimpArgs false
def mkB (l : Bs) : ByteArray := ⟨l.toArray⟩
theorem bl_mkB (l : Bs) : bl (mkB l) = l := by simp [bl, mkB]
theorem mkB_bl (s : ByteArray) : mkB (bl s) = s := bl_inj (bl_mkB _)
theorem mkB_size (l : Bs) : (mkB l).size = l.length := by rw [← bl_len, bl_mkB]
theorem keys_f : hornbookref24_Keys.f = some (keysL.map mkB) := rfl
def signsL : List Bs := doublesL ++ singlesL.map fun c => [c]
theorem signs_f : hornbookref24_signs.f = some (signsL.map mkB) := rfl
def wres (p : Nat) : Option (Int × Bs × Int × Nat) → Int × ByteArray × Int × Int × Int
  | none => (0, ⟨#[]⟩, 0, 0, 0)
  | some (k, t, v, n) => (k, mkB t, v, (p : Int), (n : Int))
theorem rd_map {xs : List Bs} {i : Nat} (h : i < xs.length) : rdOf ByteArray.empty (xs.map mkB) (i : Int) = mkB (xs.getD i []) := by
  simp [rdOf, h]
theorem keys_loop (x1 x7 : Int) (x8 : ByteArray) : ∀ (rest : List Bs) (i : Nat), keysL.drop i = rest → i ≤ keysL.length →
    Ev (fun k => hornbookref24_word.l1 k x1 x7 x8 (keysL.map mkB) (i : Int)) (if bl x8 ∈ rest then (5, x8, 0, x1, wrap64 (x7 - x1)) else (1, x8, 0, x1, wrap64 (x7 - x1))) := by
  have hL : (keysL.map mkB).length = 30 := rfl
  have hL2 : keysL.length = 30 := rfl
  intro rest
  induction rest with
  | nil =>
    intro i hd hi
    have := List.drop_eq_nil_iff.1 hd
    rw [if_neg (by simp)]
    exact Ev.step (f := fun _ => some _) (fun k => by rw [hornbookref24_word.l1, if_neg (by omega)]) (Ev.now _)
  | cons y r ih =>
    intro i hd hi
    have hlt : i < keysL.length := by
      have := congrArg List.length hd
      rw [List.length_drop] at this
      simp only [List.length_cons] at this
      omega
    have hy : keysL.getD i [] = y := by
      have := congrArg (fun l => l[0]?) hd
      simp only [List.getElem?_drop, Nat.add_zero, List.getElem?_cons_zero] at this
      simp [List.getD_eq_getElem?_getD, this]
    have hnx : keysL.drop (i + 1) = r := by rw [← List.drop_drop, hd]; rfl
    by_cases he : y = bl x8
    · rw [if_pos (by rw [he]; simp)]
      exact Ev.step (f := fun _ => some _) (fun k => by rw [hornbookref24_word.l1, if_pos (by omega), if_pos (by omega), rd_map hlt, hy, toList_bl, bl_mkB, toList_bl, if_pos he]) (Ev.now _)
    · have hw : wrap64 ((i : Int) + 1) = ((i + 1 : Nat) : Int) := wrap_succ (by omega)
      refine Ev.step (f := fun k => hornbookref24_word.l1 k x1 x7 x8 (keysL.map mkB) ((i + 1 : Nat) : Int)) (fun k => by rw [hornbookref24_word.l1, if_pos (by omega), if_pos (by omega), rd_map hlt, hy, toList_bl, bl_mkB, toList_bl, if_neg he, hw]) ?_
      have := ih (i + 1) hnx (by omega)
      by_cases hm : bl x8 ∈ r
      · rw [if_pos hm] at this
        rw [if_pos (List.mem_cons_of_mem _ hm)]
        exact this
      · rw [if_neg hm] at this
        rw [if_neg (by rw [List.mem_cons]; rintro (h | h); exact he h.symm; exact hm h)]
        exact this
theorem signs_loop (s : ByteArray) (p : Nat) (hp : p ≤ s.size) (hs : s.size ≤ 140737488351232) : ∀ (rest : List Bs) (i : Nat), signsL.drop i = rest → i ≤ signsL.length →
    Ev (fun k => hornbookref24_word.l2 k s (p : Int) (signsL.map mkB) (i : Int)) (match rest.find? (fun d => d.isPrefixOf ((bl s).drop p)) with | some d => (4, mkB d, 0, (p : Int), (d.length : Int)) | none => (0, ⟨#[]⟩, 0, 0, 0)) := by
  have hL : (signsL.map mkB).length = 24 := rfl
  have hL2 : signsL.length = 24 := rfl
  intro rest
  induction rest with
  | nil =>
    intro i hd hi
    have := List.drop_eq_nil_iff.1 hd
    exact Ev.step (f := fun _ => some _) (fun k => by rw [hornbookref24_word.l2, if_neg (by omega)]; rfl) (Ev.now _)
  | cons y r ih =>
    intro i hd hi
    have hlt : i < signsL.length := by
      have := congrArg List.length hd
      rw [List.length_drop] at this
      simp only [List.length_cons] at this
      omega
    have hy : signsL.getD i [] = y := by
      have := congrArg (fun l => l[0]?) hd
      simp only [List.getElem?_drop, Nat.add_zero, List.getElem?_cons_zero] at this
      simp [List.getD_eq_getElem?_getD, this]
    have hyl : y.length ≤ 2 := by
      have hm : y ∈ signsL := by
        have : y ∈ signsL.drop i := by rw [hd]; simp
        exact List.mem_of_mem_drop this
      have : ∀ x ∈ signsL, x.length ≤ 2 := by decide
      exact this y hm
    have hnx : signsL.drop (i + 1) = r := by rw [← List.drop_drop, hd]; rfl
    have hb := begins_tells s (mkB y) p hp hs (by rw [mkB_size]; omega)
    rw [bl_mkB] at hb
    rw [List.find?_cons]
    cases hq : y.isPrefixOf ((bl s).drop p)
    · have hw : wrap64 ((i : Int) + 1) = ((i + 1 : Nat) : Int) := wrap_succ (by omega)
      rw [hq] at hb
      refine Ev.step (f := fun k => hornbookref24_word.l2 k s (p : Int) (signsL.map mkB) ((i + 1 : Nat) : Int)) (fun k => by rw [hornbookref24_word.l2, if_pos (by omega), if_pos (by omega), rd_map hlt, hy, hb, Option.bind_some, if_neg (by simp), hw]) ?_
      exact ih (i + 1) hnx (by omega)
    · rw [hq] at hb
      exact Ev.step (f := fun _ => some _) (fun k => by rw [hornbookref24_word.l2, if_pos (by omega), if_pos (by omega), rd_map hlt, hy, hb, Option.bind_some, if_pos rfl, mkB_size]) (Ev.now _)
theorem signL_find (c : UInt8) (r : Bs) : signL (c :: r) = (signsL.find? (fun d => d.isPrefixOf (c :: r))).map fun d => (4, d, 0, d.length) := by
  rw [signL, signsL, List.find?_append]
  cases hd : doublesL.find? (fun d => d.isPrefixOf (c :: r)) with
  | some d =>
    have h2 : d.length = 2 := by
      have : ∀ x ∈ doublesL, x.length = 2 := by decide
      exact this d (List.mem_of_find?_eq_some hd)
    simp [h2]
  | none =>
    simp only [Option.none_or]
    have key : ∀ xs : Bs, (xs.map fun c => [c]).find? (fun d : Bs => d.isPrefixOf (c :: r)) = if c ∈ xs then some [c] else none := by
      intro xs
      induction xs with
      | nil => simp
      | cons x t ih =>
        rw [List.map_cons, List.find?_cons]
        by_cases h : x = c
        · subst h; simp [List.isPrefixOf]
        · have e : ([x] : Bs).isPrefixOf (c :: r) = false := by simp [List.isPrefixOf, h]
          rw [e]
          simp only
          rw [ih]
          by_cases hm : c ∈ t
          · rw [if_pos hm, if_pos (List.mem_cons_of_mem _ hm)]
          · rw [if_neg hm, if_neg (by rw [List.mem_cons]; rintro (h2 | h2); exact h h2.symm; exact hm h2)]
    rw [key]
    split <;> rfl
theorem part_loop (s : ByteArray) (p : Nat) (b : Int) (hs : s.size ≤ 140737488351232) (R : Int × ByteArray × Int × Int × Int) : ∀ (l : Bs) (q : Nat), (bl s).drop q = l → q ≤ s.size →
    Ev (fun k => hornbookref24_word.j2 k s (p : Int) b ((q + (l.takeWhile partB).length : Nat) : Int)) R → Ev (fun k => hornbookref24_word.l0 k s (p : Int) b (q : Int)) R := by
  intro l
  induction l with
  | nil =>
    intro q hl hq h
    have hsz := drop_nil hl
    refine Ev.step (f := fun k => hornbookref24_word.j2 k s (p : Int) b (q : Int)) (fun k => by rw [hornbookref24_word.l0, if_neg (by omega)]) ?_
    simpa using h
  | cons c r ih =>
    intro q hl hq h
    obtain ⟨hbt, hlt⟩ := bt_drop hl
    have hnx := drop_step hl
    have hw : wrap64 ((q : Int) + 1) = ((q + 1 : Nat) : Int) := wrap_succ (by omega)
    have hlet := letter_tells c
    have hdig := digit_tells c
    by_cases hp : partB c = true
    · refine Ev.step (f := fun k => hornbookref24_word.l0 k s (p : Int) b ((q + 1 : Nat) : Int)) (fun k => ?_) (ih (q + 1) hnx (by omega) ?_)
      · rw [hornbookref24_word.l0, if_pos (by omega), if_pos (by omega), hbt, hlet, Option.bind_some, hdig, Option.bind_some, hw]
        by_cases h1 : letB c = true
        · rw [if_pos h1]
        · rw [if_neg h1, if_pos (by simpa [partB, h1] using hp)]
      · rw [List.takeWhile_cons, if_pos hp, List.length_cons] at h
        rw [show q + 1 + (r.takeWhile partB).length = q + ((r.takeWhile partB).length + 1) by omega]
        exact h
    · rw [List.takeWhile_cons, if_neg hp] at h
      refine Ev.step (f := fun k => hornbookref24_word.j2 k s (p : Int) b (q : Int)) (fun k => ?_) (by simpa using h)
      simp only [partB, Bool.or_eq_true, not_or] at hp
      rw [hornbookref24_word.l0, if_pos (by omega), if_pos (by omega), hbt, hlet, Option.bind_some, hdig, Option.bind_some, if_neg hp.1, if_neg hp.2]
theorem part_end (s : ByteArray) (p : Nat) (c : UInt8) (r t : Bs) (hs : s.size ≤ 140737488351232) (hl : (bl s).drop p = c :: r) (ht : (c :: r).takeWhile partB = t) (hp : partB c = true) :
    Ev (fun k => hornbookref24_word.j2 k s (p : Int) (c.toNat : Int) ((p + t.length : Nat) : Int)) (wres p (plainL t)) := by
  have hle : t.length ≤ (c :: r).length := by rw [← ht]; exact (List.takeWhile_prefix _).length_le
  have hlen : (c :: r).length = s.size - p := by rw [← hl, List.length_drop, bl_len]
  have hlt := (bt_drop hl).2
  have hx : bl (s.extract p (p + t.length)) = t := by
    rw [ext_list, hl, Nat.add_sub_cancel_left]
    have := List.prefix_iff_eq_take.1 (List.takeWhile_prefix (l := c :: r) partB)
    rw [ht] at this
    exact this.symm
  have hsx : s.extract p (p + t.length) = mkB t := by rw [← mkB_bl (s.extract p (p + t.length)), hx]
  have hth : t.head? = some c := by rw [← ht, List.takeWhile_cons, if_pos hp]; rfl
  have hwn : wrap64 (((p + t.length : Nat) : Int) - (p : Int)) = (t.length : Int) := by unfold wrap64; omega
  have hpos : 0 < t.length := by cases t with | nil => simp at hth | cons a b => simp
  have hxs : (mkB t).size ≤ 140737488351232 := by rw [mkB_size]; omega
  have hany : t.head?.any digB = digB c := by rw [hth]; rfl
  have hdig := digit_tells c
  rw [plainL, hany]
  by_cases hd : digB c = true
  · rw [if_pos hd]
    have hr := read_tells (mkB t) hxs (by rw [bl_mkB, hany]; exact hd)
    rw [bl_mkB] at hr
    refine Ev.step (f := fun k => (hornbookref14_Read.f k (mkB t)).bind fun bt143 => if bt143.2 = 0 then some (2, mkB t, bt143.1, (p : Int), (t.length : Int)) else some (0, ⟨#[]⟩, 0, 0, 0)) (fun k => ?_) ?_
    · rw [hornbookref24_word.j2, if_pos (by omega), if_pos (by omega), if_pos (by omega), hdig, Option.bind_some, if_pos hd, Int.toNat_natCast, Int.toNat_natCast, hsx, hwn]
    · refine Ev.bind hr ?_
      cases readL t with
      | none => exact Ev.now _
      | some v => exact Ev.now _
  · rw [if_neg hd]
    have hn := name_tells (mkB t) hxs
    rw [bl_mkB] at hn
    refine Ev.step (f := fun k => (hornbookref01_Name.f k (mkB t)).bind fun t145 => if t145 = true then hornbookref24_word.l1 k (p : Int) ((p + t.length : Nat) : Int) (mkB t) (keysL.map mkB) 0 else some (0, ⟨#[]⟩, 0, 0, 0)) (fun k => ?_) ?_
    · rw [hornbookref24_word.j2, if_pos (by omega), if_pos (by omega), if_pos (by omega), hdig, Option.bind_some, if_neg hd, Int.toNat_natCast, Int.toNat_natCast, hsx, keys_f]
      rfl
    · refine Ev.bind hn ?_
      cases hnm : nameL t
      · rw [if_neg (by simp)]
        exact Ev.now _
      · rw [if_pos rfl]
        have hk := keys_loop (p : Int) ((p + t.length : Nat) : Int) (mkB t) keysL 0 (by simp) (by simp)
        rw [bl_mkB, hwn] at hk
        have e : wres p (if t ∈ keysL then some (5, t, 0, t.length) else some (1, t, 0, t.length)) = if t ∈ keysL then (5, mkB t, 0, (p : Int), (t.length : Int)) else (1, mkB t, 0, (p : Int), (t.length : Int)) := by split <;> rfl
        rw [e]
        exact hk
theorem word_tells (s : ByteArray) (p : Nat) (c : UInt8) (r : Bs) (hs : s.size ≤ 140737488351232) (hl : (bl s).drop p = c :: r) : Ev (fun k => hornbookref24_word.f k s (p : Int)) (wres p (wordL (c :: r))) := by
  obtain ⟨hbt, hlt⟩ := bt_drop hl
  have hnx := drop_step hl
  have hlet := letter_tells c
  have hdig := digit_tells c
  have hw : wrap64 ((p : Int) + 1) = ((p + 1 : Nat) : Int) := wrap_succ (by omega)
  rw [wordL]
  by_cases h34 : c = 34
  · rw [if_pos h34]
    have ht := text_tells s p hs r.length r [] (p + 1) rfl hnx (by omega) (by omega) (by simp)
    rw [show p + 1 - p = 1 by omega] at ht
    have g34 : (c.toNat : Int) = 34 := (u8_eq c 34 (by omega)).1 h34
    refine Ev.congr (f := fun k => (hornbookref24_text.l0 k s (p : Int) (nums []) ((p + 1 : Nat) : Int)).bind fun bt133 => some (bt133.1, bt133.2.1, bt133.2.2.1, bt133.2.2.2.1, bt133.2.2.2.2)) (fun k => ?_) ?_
    · rw [hornbookref24_word.f, if_pos (by omega), if_pos (by omega), hbt, if_pos g34, hornbookref24_text.f, hw]
      rfl
    · refine Ev.bind ht ?_
      cases textL r [] 1 with
      | none => exact Ev.now _
      | some x => exact Ev.now _
  · rw [if_neg h34]
    have g34 : ¬ (c.toNat : Int) = 34 := fun h => h34 ((u8_eq c 34 (by omega)).2 h)
    by_cases hp : partB c = true
    · rw [if_pos hp]
      have he := part_end s p c r _ hs hl rfl hp
      have hlp := part_loop s p (c.toNat : Int) hs _ (c :: r) p hl (by omega) he
      have hj : Ev (fun k => hornbookref24_word.j0 k s (p : Int) (c.toNat : Int) true) (wres p (plainL ((c :: r).takeWhile partB))) :=
        Ev.step (f := fun k => hornbookref24_word.l0 k s (p : Int) (c.toNat : Int) (p : Int)) (fun k => by rw [hornbookref24_word.j0, if_pos rfl]) hlp
      refine Ev.congr (f := fun k => hornbookref24_word.j0 k s (p : Int) (c.toNat : Int) true) (fun k => ?_) hj
      rw [hornbookref24_word.f, if_pos (by omega), if_pos (by omega), hbt, if_neg g34, hlet, Option.bind_some, hdig, Option.bind_some]
      by_cases h1 : letB c = true
      · rw [if_pos h1]
      · rw [if_neg h1, show digB c = true by simpa [partB, h1] using hp]
    · rw [if_neg hp]
      have hpp := hp
      simp only [partB, Bool.or_eq_true, not_or, Bool.not_eq_true] at hpp
      have hsl := signs_loop s p (by omega) hs signsL 0 (by simp) (by simp)
      rw [hl] at hsl
      have hj : Ev (fun k => hornbookref24_word.j0 k s (p : Int) (c.toNat : Int) false) (wres p (signL (c :: r))) := by
        refine Ev.step (f := fun k => hornbookref24_word.l2 k s (p : Int) (signsL.map mkB) 0) (fun k => by rw [hornbookref24_word.j0, if_neg (by simp), signs_f]; rfl) ?_
        rw [signL_find]
        cases hf : signsL.find? (fun d => d.isPrefixOf (c :: r)) with
        | none => rw [hf] at hsl; exact hsl
        | some d => rw [hf] at hsl; exact hsl
      refine Ev.congr (f := fun k => hornbookref24_word.j0 k s (p : Int) (c.toNat : Int) false) (fun k => ?_) hj
      rw [hornbookref24_word.f, if_pos (by omega), if_pos (by omega), hbt, if_neg g34, hlet, Option.bind_some, hdig, Option.bind_some, hpp.1, hpp.2, if_neg (by simp)]
def toS (w : WordD) : S78 := ⟨w.kind, mkB w.text, w.n, w.at_⟩
def wsres (r : List WordD × Int × Int) : List S78 × Int × Int := (r.1.map toS, r.2.1, r.2.2)
def wordsStep (s : ByteArray) (acc : List S78) (p : Int) (k : Nat) (x : Int × ByteArray × Int × Int × Int) : Option (List S78 × Int × Int) :=
  if x.2.2.2.2 = 0 then some ([], p, 18) else if acc.length < 3518437208883 then (hornbookref24_blank.f k s (wrap64 (p + x.2.2.2.2))).bind fun t167 => hornbookref24_Words.l0 k s (acc ++ [(⟨x.1, x.2.1, x.2.2.1, x.2.2.2.1⟩ : S78)]) (wrap64 ((wrap64 (p + x.2.2.2.2)) + t167)) else none
theorem words_step (s : ByteArray) (acc : List S78) (p : Int) (k : Nat) (h : p < (s.size : Int)) : hornbookref24_Words.l0 (k + 1) s acc p = (hornbookref24_word.f k s p).bind (wordsStep s acc p k) := by
  rw [hornbookref24_Words.l0, if_pos h]
  rfl
theorem words_loop (s : ByteArray) (hs : s.size ≤ 16384) : ∀ (m : Nat) (l : Bs) (p : Nat) (acc : List WordD), (bl s).drop p = l → p ≤ s.size → l.length < m → acc.length ≤ p →
    Ev (fun k => hornbookref24_Words.l0 k s (acc.map toS) (p : Int)) (wsres (lexFrom s.size m l acc)) := by
  intro m
  induction m with
  | zero => intro l p acc _ _ h _; omega
  | succ m ih =>
    intro l p acc hl hp hm ha
    have hll : l.length = s.size - p := by rw [← hl, List.length_drop, bl_len]
    rw [lexFrom]
    cases l with
    | nil =>
      have hsz := drop_nil hl
      rw [if_pos rfl]
      exact Ev.step (f := fun _ => some _) (fun k => by rw [hornbookref24_Words.l0, if_neg (by omega)]; rfl) (Ev.now _)
    | cons c r =>
      rw [if_neg (by simp)]
      obtain ⟨hbt, hlt⟩ := bt_drop hl
      have hw := word_tells s p c r (by omega) hl
      have hsp : s.size - (c :: r).length = p := by omega
      rw [hsp]
      cases hwd : wordL (c :: r) with
      | none =>
        rw [hwd] at hw
        refine Ev.step (f := fun k => (hornbookref24_word.f k s (p : Int)).bind (wordsStep s (acc.map toS) (p : Int) k)) (fun k => words_step s _ _ k (by omega)) ?_
        refine Ev.bind hw ?_
        exact Ev.congr (f := fun _ => some _) (fun k => by rw [wordsStep, wres, if_pos rfl]; rfl) (Ev.now _)
      | some x =>
        obtain ⟨kd, t, v, n⟩ := x
        obtain ⟨hn1, hn2, _⟩ := wordL_n hwd
        rw [hwd] at hw
        have hd : (bl s).drop (p + n) = (c :: r).drop n := by rw [← List.drop_drop, hl]
        have HPN : Hid (wrap64 ((p : Int) + (n : Int)) = ((p + n : Nat) : Int)) := Lib.hid (by unfold wrap64; omega)
        have hbk := (blank_tells s (p + n) (by omega) ((c :: r).drop n) (p + n) hd (Nat.le_refl _) (by omega)).1
        obtain ⟨b, hb⟩ : ∃ b, b = blankN false ((c :: r).drop n) := ⟨_, rfl⟩
        have hble := blankN_le false ((c :: r).drop n)
        rw [List.length_drop] at hble
        rw [← hb] at hbk hble
        rw [show p + n + b - (p + n) = b by omega] at hbk
        have hnx : (bl s).drop (p + n + b) = skipL ((c :: r).drop n) := by rw [skipL, ← hb, ← List.drop_drop, hd]
        have hrec := ih (skipL ((c :: r).drop n)) (p + n + b) (acc ++ [⟨kd, t, v, (p : Int)⟩]) hnx (by omega) (by
          have := skipL_len ((c :: r).drop n)
          rw [List.length_drop] at this
          omega) (by simp; omega)
        have hpnb : Hid (wrap64 (((p + n : Nat) : Int) + (b : Int)) = ((p + n + b : Nat) : Int)) := Lib.hid (by unfold wrap64; omega)
        refine Ev.step (f := fun k => (hornbookref24_word.f k s (p : Int)).bind (wordsStep s (acc.map toS) (p : Int) k)) (fun k => words_step s _ _ k (by omega)) ?_
        refine Ev.bind hw ?_
        have e : ∀ k, wordsStep s (acc.map toS) (p : Int) k (wres p (some (kd, t, v, n))) = (hornbookref24_blank.f k s ((p + n : Nat) : Int)).bind fun t167 => hornbookref24_Words.l0 k s ((acc ++ [(⟨kd, t, v, (p : Int)⟩ : WordD)]).map toS) (wrap64 (((p + n : Nat) : Int) + t167)) := by
          intro k
          rw [wordsStep, wres]
          dsimp only
          rw [if_neg (by omega), if_pos (by rw [List.length_map]; omega), HPN.out, List.map_append]
          rfl
        refine Ev.congr e ?_
        refine Ev.bind (a := (b : Int)) hbk ?_
        rw [hpnb.out]
        exact hrec
theorem words_tells (s : ByteArray) (hs : s.size ≤ 140737488351232) : Ev (fun k => hornbookref24_Words.f k s) (wsres (lexL (bl s))) := by
  rw [lexL, bl_len]
  by_cases h : 16384 < s.size
  · rw [if_pos h]
    exact Ev.congr (f := fun _ => some _) (fun k => by rw [hornbookref24_Words.f, if_pos (by omega)]; rfl) (Ev.now _)
  · rw [if_neg h]
    have hbk := (blank_tells s 0 hs (bl s) 0 (by simp) (Nat.le_refl _) (by omega)).1
    have hle := blankN_le false (bl s)
    rw [bl_len] at hle
    refine Ev.congr (f := fun k => (hornbookref24_blank.f k s 0).bind fun t157 => hornbookref24_Words.l0 k s [] t157) (fun k => by rw [hornbookref24_Words.f, if_neg (by omega)]) ?_
    refine Ev.bind hbk ?_
    rw [show 0 + blankN false (bl s) - 0 = blankN false (bl s) by omega]
    exact words_loop s (by omega) (s.size + 1) (skipL (bl s)) (blankN false (bl s)) [] rfl hle (by have := skipL_len (bl s); rw [bl_len] at this; omega) (by simp)
end Go.Proofs.YtcaigcmbgihhkaaDoor
