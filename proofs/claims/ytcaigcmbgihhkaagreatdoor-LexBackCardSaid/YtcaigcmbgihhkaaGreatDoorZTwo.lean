/-
  Two sources with a line's end between: their words, in plain Lean.
  The law on two sources: its walk.
-/
import Derived.Test.YtcaigcmbgihhkaaGreatDoorZRef
import Derived.Test.YtcaigcmbgihhkaaGreatDoorZLaw
import Derived.Laws.AppendOwnNone
namespace Go.Proofs.YtcaigcmbgihhkaaGreatDoor
open Go Go.RowKit
set_option linter.unusedVariables false
set_option linter.unusedSimpArgs false
theorem blankN_app : ∀ (m : Bool) (l b : Bs), blankN m (l ++ 10 :: b) = if blankN m l = l.length then l.length + 1 + blankN false b else blankN m l
  | true, [], b => by simp [blankN]; omega
  | false, [], b => by simp [blankN, blkB]; omega
  | true, c :: r, b => by
    rw [List.cons_append, blankN, blankN, blankN_app false r b, blankN_app true r b, List.length_cons]
    by_cases h : c = 10
    · rw [if_pos h, if_pos h]
      by_cases e : blankN false r = r.length
      · rw [if_pos e, if_pos (by omega)]; omega
      · rw [if_neg e, if_neg (by omega)]
    · rw [if_neg h, if_neg h]
      by_cases e : blankN true r = r.length
      · rw [if_pos e, if_pos (by omega)]; omega
      · rw [if_neg e, if_neg (by omega)]
  | false, c :: r, b => by
    have hh : ((r ++ 10 :: b).head? = some 47) ↔ (r.head? = some 47) := by cases r <;> simp
    rw [List.cons_append, blankN, blankN, blankN_app false r b, blankN_app true r b, List.length_cons]
    by_cases h : blkB c = true
    · rw [if_pos h, if_pos h]
      by_cases e : blankN false r = r.length
      · rw [if_pos e, if_pos (by omega)]; omega
      · rw [if_neg e, if_neg (by omega)]
    · rw [if_neg h, if_neg h]
      by_cases h2 : c = 47 ∧ r.head? = some 47
      · rw [if_pos ⟨h2.1, hh.2 h2.2⟩, if_pos h2]
        by_cases e : blankN true r = r.length
        · rw [if_pos e, if_pos (by omega)]; omega
        · rw [if_neg e, if_neg (by omega)]
      · rw [if_neg (fun x => h2 ⟨x.1, hh.1 x.2⟩), if_neg h2, if_neg (by omega)]
theorem skipL_nil_iff (l : Bs) : skipL l = [] ↔ blankN false l = l.length := by
  have := blankN_le false l
  rw [skipL, List.drop_eq_nil_iff]
  omega
theorem skipL_app (l b : Bs) : skipL (l ++ 10 :: b) = if skipL l = [] then skipL b else skipL l ++ 10 :: b := by
  have hle := blankN_le false l
  by_cases h : skipL l = []
  · rw [if_pos h]
    have h' := (skipL_nil_iff l).1 h
    rw [skipL, blankN_app, if_pos h', skipL, List.drop_append, List.drop_eq_nil_of_le (by omega), List.nil_append, show l.length + 1 + blankN false b - l.length = blankN false b + 1 by omega]
    rfl
  · rw [if_neg h]
    have h' : ¬ blankN false l = l.length := fun e => h ((skipL_nil_iff l).2 e)
    rw [skipL, blankN_app, if_neg h', skipL, List.drop_append_of_le_length (by omega)]
theorem textL_app : ∀ (l : Bs) (acc : Bs) (n : Nat) (x : Bs × Nat) (t : Bs), textL l acc n = some x → textL (l ++ t) acc n = some x
  | [], acc, n, x, t, h => by simp [textL] at h
  | c :: r, acc, n, x, t, h => by
    rw [textL.eq_def] at h
    simp only at h
    rw [List.cons_append, textL.eq_def]
    simp only
    split at h
    · rename_i h1
      rw [if_pos h1]; exact h
    · rename_i h1
      rw [if_neg h1]
      split at h
      · cases h
      · rename_i h2
        rw [if_neg h2]
        split at h
        · rename_i h3
          rw [if_pos h3]
          cases r with
          | nil => cases h
          | cons d r2 =>
            simp only [List.cons_append] at h ⊢
            split at h
            · cases h
            · rename_i e he
              exact textL_app r2 _ _ _ _ h
        · rename_i h3
          rw [if_neg h3]
          exact textL_app r _ _ _ _ h
theorem takeWhile_app (p : UInt8 → Bool) (x : UInt8) (hx : p x = false) : ∀ (l t : Bs), (l ++ x :: t).takeWhile p = l.takeWhile p
  | [], t => by simp [hx]
  | c :: r, t => by
    rw [List.cons_append, List.takeWhile_cons, List.takeWhile_cons, takeWhile_app p x hx r t]
theorem find_congr {α : Type} {p q : α → Bool} : ∀ (l : List α), (∀ x ∈ l, p x = q x) → l.find? p = l.find? q
  | [], _ => rfl
  | a :: r, h => by rw [List.find?_cons, List.find?_cons, h a (by simp), find_congr r (fun x hx => h x (by simp [hx]))]
theorem doubles_app (y : UInt8) (hy : ∀ d ∈ doublesL, d[1]? ≠ some y) (c : UInt8) (r t : Bs) : doublesL.find? (fun d => d.isPrefixOf (c :: r ++ y :: t)) = doublesL.find? (fun d => d.isPrefixOf (c :: r)) := by
  apply find_congr
  intro d hd
  have h2 : ∃ p q, d = [p, q] := by
    have : ∀ x ∈ doublesL, x.length = 2 := by decide
    have := this d hd
    match d, this with
    | [p, q], _ => exact ⟨p, q, rfl⟩
  obtain ⟨p, q, rfl⟩ := h2
  have hq : q ≠ y := fun e => hy _ hd (by simp [e])
  cases r with
  | nil =>
    simp only [List.cons_append, List.nil_append, List.isPrefixOf]
    have : (q == y) = false := beq_eq_false_iff_ne.2 hq
    simp [this]
  | cons e r2 => rfl
theorem wordL_app (y : UInt8) (hp : partB y = false) (hy : ∀ d ∈ doublesL, d[1]? ≠ some y) (l t : Bs) (x : Int × Bs × Int × Nat) (h : wordL l = some x) : wordL (l ++ y :: t) = some x := by
  cases l with
  | nil => simp [wordL] at h
  | cons c r =>
    rw [wordL.eq_def] at h
    simp only at h
    rw [List.cons_append, wordL.eq_def]
    simp only
    split at h
    · rename_i h1
      rw [if_pos h1]
      split at h
      · cases h
      · rename_i t' n' ht
        rw [textL_app r [] 1 _ _ ht]
        exact h
    · rename_i h1
      rw [if_neg h1]
      split at h
      · rename_i h2
        rw [if_pos h2, ← List.cons_append, takeWhile_app partB y hp]
        exact h
      · rename_i h2
        rw [if_neg h2, ← List.cons_append]
        have hd := doubles_app y hy c r t
        rw [signL.eq_def] at h ⊢
        simp only at h ⊢
        rw [hd]
        exact h
def Lx (S : Nat) (l : Bs) (acc : List WordD) : List WordD × Int × Int := lexFrom S (l.length + 1) l acc
theorem Lx_eq (S : Nat) (l : Bs) (acc : List WordD) : Lx S l acc = if l = [] then (acc, 0, 0) else match wordL l with
    | none => ([], ((S - l.length : Nat) : Int), 18)
    | some (k, t, v, n) => Lx S (skipL (l.drop n)) (acc ++ [⟨k, t, v, ((S - l.length : Nat) : Int)⟩]) := by
  rw [Lx, lexFrom]
  by_cases h : l = []
  · rw [if_pos h, if_pos h]
  · rw [if_neg h, if_neg h]
    cases hw : wordL l with
    | none => rfl
    | some x =>
      obtain ⟨k, t, v, n⟩ := x
      obtain ⟨h1, h2, _⟩ := wordL_n hw
      have h3 := skipL_len (l.drop n)
      rw [List.length_drop] at h3
      exact lexFrom_more S _ _ _ _ (by omega) (by omega)
theorem lexL_Lx (src : Bs) (h : src.length ≤ 16384) : lexL src = Lx src.length (skipL src) [] := by
  have := skipL_len src
  rw [lexL, if_neg (by omega), Lx]
  exact lexFrom_more _ _ _ _ _ (by omega) (by omega)
theorem Lx_first (sa : Nat) (b : Bs) : ∀ (m : Nat) (l : Bs) (acc L : List WordD), l.length = m → l.length ≤ sa → Lx sa l acc = (L, 0, 0) →
    Lx (sa + 1 + b.length) (if l = [] then skipL b else l ++ 10 :: b) acc = Lx (sa + 1 + b.length) (skipL b) L := by
  intro m
  induction m using Nat.strongRecOn with
  | _ m ih =>
    intro l acc L hm hsa h
    rw [Lx_eq] at h
    by_cases hl : l = []
    · rw [if_pos hl] at h
      cases h
      rw [if_pos hl]
    · rw [if_neg hl] at h ⊢
      cases hw : wordL l with
      | none => rw [hw] at h; simp at h
      | some x =>
        obtain ⟨k, t, v, n⟩ := x
        rw [hw] at h
        simp only at h
        obtain ⟨h1, h2, _⟩ := wordL_n hw
        have h3 := skipL_len (l.drop n)
        rw [List.length_drop] at h3
        have hrec := ih (skipL (l.drop n)).length (by omega) _ _ _ rfl (by omega) h
        rw [Lx_eq, if_neg (by simp), wordL_app 10 (by decide) (by decide) l b _ hw]
        simp only
        rw [List.drop_append_of_le_length h2, skipL_app]
        have e : ((sa + 1 + b.length - (l ++ 10 :: b).length : Nat) : Int) = ((sa - l.length : Nat) : Int) := by
          rw [List.length_append, List.length_cons]; omega
        rw [e]
        exact hrec
def strip (x : WordD) : Int × Bs × Int := (x.kind, x.text, x.n)
theorem Lx_shift (sb d : Nat) : ∀ (m : Nat) (l : Bs) (acc acc' : List WordD), l.length = m → l.length ≤ sb →
    (∃ X X', Lx sb l acc = (acc ++ X, 0, 0) ∧ Lx (d + sb) l acc' = (acc' ++ X', 0, 0) ∧ X'.map strip = X.map strip) ∨ (∃ p : Int, Lx sb l acc = ([], p, 18) ∧ Lx (d + sb) l acc' = ([], p + d, 18)) := by
  intro m
  induction m using Nat.strongRecOn with
  | _ m ih =>
    intro l acc acc' hm hsb
    rw [Lx_eq sb, Lx_eq (d + sb)]
    by_cases hl : l = []
    · rw [if_pos hl, if_pos hl]
      exact .inl ⟨[], [], by simp, by simp, rfl⟩
    · rw [if_neg hl, if_neg hl]
      cases hw : wordL l with
      | none => exact .inr ⟨_, rfl, by simp only [Prod.mk.injEq, true_and, and_true]; omega⟩
      | some x =>
        obtain ⟨k, t, v, n⟩ := x
        simp only
        obtain ⟨h1, h2, _⟩ := wordL_n hw
        have h3 := skipL_len (l.drop n)
        rw [List.length_drop] at h3
        rcases ih (skipL (l.drop n)).length (by omega) _ (acc ++ [⟨k, t, v, ((sb - l.length : Nat) : Int)⟩]) (acc' ++ [⟨k, t, v, ((d + sb - l.length : Nat) : Int)⟩]) rfl (by omega) with ⟨X, X', a1, a2, a3⟩ | ⟨p, a1, a2⟩
        · refine .inl ⟨_ :: X, _ :: X', by rw [a1, List.append_assoc]; rfl, by rw [a2, List.append_assoc]; rfl, ?_⟩
          rw [List.map_cons, List.map_cons, a3]
          rfl
        · exact .inr ⟨p, a1, a2⟩
theorem lex_two (a b : Bs) (h : a.length + 1 + b.length ≤ 16384) (L : List WordD) (ha : lexL a = (L, 0, 0)) :
    (∃ X X', lexL b = (X, 0, 0) ∧ lexL (a ++ 10 :: b) = (L ++ X', 0, 0) ∧ X'.map strip = X.map strip) ∨ (∃ p : Int, lexL b = ([], p, 18) ∧ lexL (a ++ 10 :: b) = ([], p + (a.length : Int) + 1, 18)) := by
  have hz : (a ++ 10 :: b).length = a.length + 1 + b.length := by rw [List.length_append, List.length_cons]; omega
  rw [lexL_Lx a (by omega)] at ha
  have hsa := skipL_len a
  have hsb := skipL_len b
  have h1 := Lx_first a.length b _ (skipL a) [] L rfl hsa ha
  rw [← skipL_app, ← hz, ← lexL_Lx _ (by omega), hz] at h1
  rw [h1, lexL_Lx b (by omega)]
  rcases Lx_shift b.length (a.length + 1) _ (skipL b) [] L rfl hsb with ⟨X, X', a1, a2, a3⟩ | ⟨p, a1, a2⟩
  · exact .inl ⟨X, X', by rw [a1]; rfl, a2, a3⟩
  · exact .inr ⟨p, a1, by rw [a2]; simp only [Prod.mk.injEq, true_and, and_true]; omega⟩
theorem lexFrom_at (size : Nat) : ∀ (m : Nat) (l : Bs) (acc : List WordD), 0 ≤ (lexFrom size m l acc).2.1 ∧ (lexFrom size m l acc).2.1 ≤ size
  | 0, l, acc => by simp [lexFrom]
  | m + 1, l, acc => by
    rw [lexFrom]
    split
    · simp
    · split
      · simp only; omega
      · exact lexFrom_at size m _ _
theorem lexL_at (l : Bs) : 0 ≤ (lexL l).2.1 ∧ (lexL l).2.1 ≤ 16384 := by
  unfold lexL
  split
  · simp
  · have := lexFrom_at l.length (l.length + 1) (skipL l) []
    omega
end Go.Proofs.YtcaigcmbgihhkaaGreatDoor

namespace Go.Proofs.YtcaigcmbgihhkaaGreatDoor
open Go Go.RowKit Go.Shelf Go.Proofs.YtcaigcmbgihhkaaGreatDoorW.PrintWords Go.Proofs.YtcaigcmbgihhkaaGreatDoor.PLexWords
set_option linter.unusedVariables false
set_option linter.unusedSimpArgs false
attribute [local go_sem] Oper.semAt_some
theorem info_refword : (Tryz.prog.info? 63).map (fun i => (i.zero, i.size, i.bytes)) = some (some (.agg #[.int .i64 0, .string ByteArray.empty, .int .i64 0, .int .i64 0]), 4, 40) := by kernel_rfl
theorem wpList_append_in {P : Program} {w : World} {ops : Array Oper} {rest : List Oper} {o : Oper} {a : Act} {Q : Exit → Act → World → Prop} (hgd : o.guard = none) (s x : Operand) (t : TypeId)
    (ho : o.op = .call { callee := .builtin .append, args := #[s, x], argTypes := #[t, t] })
    (base : Nat) (e : TypeId) (i : TypeInfo) (z : Value) (size bytes : Nat) (ht : P.underlying t = some (.slice e)) (hi : P.info? e = some i) (hz : i.zero = some z)
    (hsize : i.size = size) (hby : i.bytes = bytes) (hzs : z.cells.size = size) (hsz : 0 < size)
    (v : Value) (n : Nat) (xs : List Value) (hs : a.eval s = v) (hown : w.ownsRow base e size v n xs)
    (k m : Nat) (v2 : Value) (news : List Value) (hx : a.eval x = v2) (hin : SliceIn k size w v2 m news) (h1 : ∀ u ∈ news, u.oneCell' = true)
    (h63 : n + m ≤ maxLen) (hbytes : (n + m) * bytes ≤ 140737488355328) (hbase : base ≤ w.heap.size)
    (h : ∀ v' w', w'.ownsRow base e size v' (n + m) (xs ++ news) → w.grownBy w' v.ownBlock → wpList P ops Q rest (a.put o.dst v') w') : wpList P ops Q (o :: rest) a w := by
  obtain ⟨hl, ao, cap, rfl, h2, h3, h4, h5⟩ := hin
  cases ao with
  | none =>
    obtain ⟨rfl, rfl⟩ := h4 rfl
    have : news = [] := List.eq_nil_of_length_eq_zero (by omega)
    subst this
    exact wpList_append_own_none hgd s x t ho base e i size ht hi v n xs hs hown hx (h v w (by simpa using hown) (World.grownBy.refl _ _))
  | some ad => exact wpList_append_own w hgd s x t ho base e i z size bytes ht hi hz hsize hby hzs hsz v n xs hs hown ad m cap news hx hl (h5 ad rfl).2 h1 h63 hbytes hbase (fun v' w' q1 q2 _ => h v' w' q1 q2)
theorem refs_read {W : World} {base : Nat} {v : Value} {l : List WordD} (hl : l.length ≤ 9223372036854775807) (h : W.ownsRow base 63 4 v l.length (wrow l)) : ∃ A c, v = .slice A l.length c ∧ l.length ≤ c ∧ Kd.C k63 W A l.length (l.map toS) := by
  obtain ⟨h1, ⟨rfl, h0⟩ | ⟨g, cap, cur, rfl, h2, h3, h4, h5, h6, h7⟩⟩ := h
  · have : l = [] := List.eq_nil_of_length_eq_zero h0
    subst this
    exact ⟨none, 0, rfl, Nat.le_refl _, rfl, by simp, fun h => absurd h (by simp)⟩
  · refine ⟨some ⟨g, 0, none⟩, cap, rfl, h4, List.length_map _, hl, fun _ => ⟨_, rfl, fun j p hp => ?_⟩⟩
    rw [List.getElem?_map, Option.map_eq_some_iff] at hp
    obtain ⟨x, hx, rfl⟩ := hp
    refine ⟨wcells x, rfl, k63_mk W (toS x), fun i u hu => ?_⟩
    have hj := (List.getElem?_eq_some_iff.1 hx).1
    have hi : i < 4 := (List.getElem?_eq_some_iff.1 hu).1
    have hc : W.cell? ⟨g, j * 4 + i, none⟩ = cur[j * 4 + i]? := by simp [World.cell?, show W.heap[g]? = _ from h3]
    have e4 : k63.sz = 4 := rfl
    rw [e4, addr_add_lit, Nat.zero_add, hc, take_get h7 _ (by omega)]
    exact wrow_get l j x hx i u hu
theorem wrow_append (a b : List WordD) : wrow (a ++ b) = wrow a ++ wrow b := by simp [wrow]
theorem wrow_one (l : List WordD) : ∀ u ∈ wrow l, u.oneCell' = true := by
  intro u hu
  simp only [wrow, List.mem_flatMap] at hu
  obtain ⟨x, _, hx⟩ := hu
  simp only [wcells, List.mem_cons, List.not_mem_nil, or_false] at hx
  rcases hx with rfl | rfl | rfl | rfl <;> rfl
theorem same_loop2 (l l' : List WordD) (h : l'.map strip = l.map strip) (hb : l.length ≤ 1000000) : ∀ (m : Nat) (j : Nat), l.length = j + m → hornbookref24_Same.l0 (m + 1) (l.map toS) (l'.map toS) false (j : Int) = some true
  | 0, j, hj => by rw [hornbookref24_Same.l0, if_neg (by rw [List.length_map]; omega)]
  | m + 1, j, hj => by
    have hl : l'.length = l.length := by have := congrArg List.length h; simpa using this
    have ew : wrap64 ((j : Int) + 1) = ((j + 1 : Nat) : Int) := by unfold wrap64; omega
    have hj1 : j < l.length := by omega
    have hj2 : j < l'.length := by omega
    have e1 : rd_T63 (l.map toS) (j : Int) = toS l[j] := by simp [rd_T63, hj1]
    have e2 : rd_T63 (l'.map toS) (j : Int) = toS l'[j] := by simp [rd_T63, hj2]
    have hs : strip l'[j] = strip l[j] := by
      have := congrArg (fun x => x[j]?) h
      simpa [hj1, hj2] using this
    simp only [strip, Prod.mk.injEq] at hs
    rw [hornbookref24_Same.l0, if_pos (by rw [List.length_map]; omega), if_pos (by omega), if_pos (by rw [List.length_map]; omega), e1, e2]
    have t1 : (toS l[j]).f0 = (toS l'[j]).f0 := hs.1.symm
    have t2 : ((toS l[j]).f1).toList = ((toS l'[j]).f1).toList := by show (mkB _).toList = (mkB _).toList; rw [hs.2.1]
    have t3 : (toS l[j]).f2 = (toS l'[j]).f2 := hs.2.2.symm
    rw [if_pos t1, if_pos t2, if_pos t3, if_neg (by decide), ew]
    exact same_loop2 l l' h hb m (j + 1) (by omega)
theorem same2_any (w : World) (A A' : Option Addr) (c c' : Nat) (n : Nat) (l l' : List WordD) (h : l'.map strip = l.map strip) (hn : l.length = n) (hb : n ≤ 1000000) (h1 : Kd.C k63 w A n (l.map toS)) (h2 : n ≤ c) (h3 : Kd.C k63 w A' n (l'.map toS)) (h4 : n ≤ c') :
    Calls Tryz.prog 11 #[.slice A n c, .slice A' n c', .bool false] w fun e w' => e = .returned (.bool true) ∧ Below w.heap.size w w' := by
  have hl : l'.length = n := by have := congrArg List.length h; simp at this; omega
  have hf : hornbookref24_Same.f (n + 1) (l.map toS) (l'.map toS) false = some true := by
    rw [hornbookref24_Same.f, if_pos (by rw [List.length_map, List.length_map]; omega)]
    subst hn
    exact same_loop2 l l' h (by omega) l.length 0 (by omega)
  have hh := hornbookref24_Same.calls (n + 1) A c (l.map toS) A' c' (l'.map toS) false true w (by rw [List.length_map, hn]; exact h1) (by rw [List.length_map, hn]; exact h2) (by rw [List.length_map, hl]; exact h3) (by rw [List.length_map, hl]; exact h4) hf
  rw [List.length_map, List.length_map, hn, hl] at hh
  exact hh.mono fun e w' ⟨he, n, hn⟩ => ⟨he, by rw [hn]; exact pw_below_drewN (Below.refl _ _) n⟩
theorem taken_n (w : World) (A : Option Addr) (c n : Nat) (l : List WordD) (hn : l.length = n) (hb : n ≤ 100000) (hr : Kd.C k36 w A n (l.map toP)) (hc : n ≤ c) :
    Calls Tryz.prog 12 #[.slice A n c] w fun e w' => ∃ A' c', e = .returned (.slice A' n c') ∧ n ≤ c' ∧ Kd.C k63 w' A' n (l.map toS) ∧ w'.ownsRow w.heap.size 63 4 (.slice A' n c') n (wrow l) ∧ Below w.heap.size w w' := by
  subst hn
  exact taken_any w A c l hb hr hc
theorem same2_n (w : World) (A A' : Option Addr) (c c' n n' : Nat) (l l' : List WordD) (h : l'.map strip = l.map strip) (hn : l.length = n) (hn' : n' = n) (hb : n ≤ 1000000) (h1 : Kd.C k63 w A n (l.map toS)) (h2 : n ≤ c) (h3 : Kd.C k63 w A' n' (l'.map toS)) (h4 : n' ≤ c') :
    Calls Tryz.prog 11 #[.slice A n c, .slice A' n' c', .bool false] w fun e w' => e = .returned (.bool true) ∧ Below w.heap.size w w' := by
  subst hn'
  exact same2_any w A A' c c' n' l l' h hn hb h1 h2 h3 h4
set_option maxRecDepth 100000 in
set_option maxHeartbeats 2000000 in
theorem lexTwo_any (a b : ByteArray) (ha : a.size ≤ 140737488351232) (hb : b.size ≤ 140737488351232) (W : World) (hS : SpaceAt W) : Calls Tryz.prog 4 #[.string a, .string b] W fun e W' => e = .returned (.bool true) ∧ Below W.heap.size W W' := by
  have h1 := words_any W a ha hS
  have h2 := fun w (h : SpaceAt w) => words_any w b hb h
  obtain ⟨⟨l1, at1, e1⟩, hR1⟩ : ∃ R, R = lexL (bl a) := ⟨_, rfl⟩
  obtain ⟨⟨l2, at2, e2⟩, hR2⟩ : ∃ R, R = lexL (bl b) := ⟨_, rfl⟩
  have hn1 := lexL_len (bl a)
  have hn2 := lexL_len (bl b)
  rw [← hR1] at h1 hn1
  rw [← hR2] at h2 hn2
  dsimp only at h1 h2 hn1 hn2
  have H1 := Lib.hid h1
  have H2 := Lib.hid h2
  have HS := Lib.hid hS
  have HR1 := Lib.hid hR1
  have HR2 := Lib.hid hR2
  clear h1 h2 hS hR1 hR2
  obtain ⟨i0, hi, hz0, hz1, hz2⟩ := info_parts info_refword
  by_cases hc : (16383 : Int) - (b.size : Int) < (a.size : Int)
  · have hcd : decide ((16383 : Int) - (b.size : Int) < (a.size : Int)) = true := decide_eq_true hc
    go_enter Tryz.func4, Tryz.ntmps4
    go_wp2_with fail
    refine H1.out.mono ?_
    rintro e w1 ⟨v1, rfl, hown1, b1⟩
    have B1 := Lib.hid b1
    clear hown1 b1
    go_wp2_with fail
    refine (H2.out _ (HS.out.mono B1.out)).mono ?_
    rintro e w2 ⟨v2, rfl, hown2, b2⟩
    have B2 := Lib.hid (B1.out.trans (b2.mono B1.out.size))
    clear hown2 b2
    go_wp2_with fail
    refine (known24_any _ (HS.out.mono B2.out)).mono ?_
    rintro e w3 ⟨rfl, b3⟩
    have B3 := Lib.hid (B2.out.trans (b3.mono B2.out.size))
    clear b3
    go_wp2
    go_ret
    exact ⟨rfl, B3.out⟩
  · have hcd : decide ((16383 : Int) - (b.size : Int) < (a.size : Int)) = false := decide_eq_false hc
    by_cases he1 : e1 = 0
    · have hsz : (bl a).length + 1 + (bl b).length ≤ 16384 := by rw [bl_len, bl_len]; omega
      have hok : lexL (bl a) = (l1, 0, 0) := by
        have h1 := HR1.out
        rw [he1] at h1
        rcases Lx_shift (bl a).length 0 _ (skipL (bl a)) [] [] rfl (skipL_len _) with ⟨X, X', a1, _, _⟩ | ⟨p, a1, _⟩
        · rw [lexL_Lx _ (by omega), a1] at h1 ⊢
          simp only [Prod.mk.injEq] at h1
          rw [h1.1]
        · rw [lexL_Lx _ (by omega), a1] at h1
          simp at h1
      have hat1 : at1 = 0 := by
        have h1 := HR1.out
        rw [hok] at h1
        simp only [Prod.mk.injEq] at h1
        exact h1.2.1
      subst he1 hat1
      have hs3 : bl (a ++ ⟨#[10]⟩ ++ b) = bl a ++ 10 :: bl b := by rw [bl_append, bl_append]; simp [bl]
      have hs3n : (a ++ ⟨#[10]⟩ ++ b : ByteArray).size ≤ 140737488351232 := by rw [← bl_len, hs3, List.length_append, List.length_cons]; omega
      have h3 := fun w (h : SpaceAt w) => words_any w (a ++ ⟨#[10]⟩ ++ b) hs3n h
      rw [hs3] at h3
      have hn3 := lexL_len (bl a ++ 10 :: bl b)
      rcases lex_two (bl a) (bl b) hsz l1 hok with ⟨X, X', q1, q2, q3⟩ | ⟨p, q1, q2⟩
      · have h2 := HR2.out
        rw [q1] at h2
        simp only [Prod.mk.injEq] at h2
        obtain ⟨rfl, rfl, rfl⟩ := h2
        rw [q2] at h3 hn3
        dsimp only at h3 hn3
        have H3 := Lib.hid h3
        have Q3 := Lib.hid q3
        have hst : (l1 ++ l2).map strip = (l1 ++ X').map strip := by rw [List.map_append, List.map_append, q3]
        have HST := Lib.hid hst
        have hlx : X'.length = l2.length := by have := congrArg List.length q3; simpa using this
        have HLX := Lib.hid hlx
        have hl1 : l1.length ≤ 16384 := by rw [List.length_append] at hn3; omega
        clear h3 hs3 hs3n hok q1 q2 q3 hst hlx HR1 HR2 hsz
        go_enter Tryz.func4, Tryz.ntmps4
        go_wp2_with fail
        refine H1.out.mono ?_
        rintro e w1 ⟨v1, rfl, hown1, b1⟩
        obtain ⟨A1, c1, rfl, hc1, hr1⟩ := words_read (by omega) hown1
        have B1 := Lib.hid b1
        have R1 := Lib.hid hr1
        clear hown1 b1 hr1
        go_wp2_with fail
        refine (H2.out _ (HS.out.mono B1.out)).mono ?_
        rintro e w2 ⟨v2, rfl, hown2, b2⟩
        obtain ⟨A2, c2, rfl, hc2, hr2⟩ := words_read (by omega) hown2
        have B2 := Lib.hid (B1.out.trans (b2.mono B1.out.size))
        have R1' := Lib.hid (Kd.C_below R1.out b2)
        have R2 := Lib.hid hr2
        clear hown2 b2 hr2
        go_wp2_with fail
        refine (H3.out _ (HS.out.mono B2.out)).mono ?_
        rintro e w3 ⟨v3, rfl, hown3, b3⟩
        obtain ⟨A3, c3, rfl, hc3, hr3⟩ := words_read (by omega) hown3
        have B3 := Lib.hid (B2.out.trans (b3.mono B2.out.size))
        have R1'' := Lib.hid (Kd.C_below R1'.out b3)
        have R2' := Lib.hid (Kd.C_below R2.out b3)
        have R3 := Lib.hid hr3
        clear hown3 b3 hr3
        have hc3' : l1.length + X'.length ≤ c3 := by rw [List.length_append] at hc3; exact hc3
        rw [List.length_append] at hn3
        clear hc3
        go_wp2_with fail
        refine (taken_any _ _ _ l1 (by omega) R1''.out hc1).mono ?_
        rintro e w4 ⟨A4, c4, rfl, hc4, _, hown4, b4⟩
        have B4 := Lib.hid (B3.out.trans (b4.mono B3.out.size))
        have R2'' := Lib.hid (Kd.C_below R2'.out b4)
        have R3' := Lib.hid (Kd.C_below R3.out b4)
        have O4 := Lib.hid hown4
        have B45 := Lib.hid b4
        clear b4 hown4
        go_wp2_with fail
        refine (taken_any _ _ _ l2 (by omega) R2''.out hc2).mono ?_
        rintro e w5 ⟨A5, c5, rfl, hc5, hr5, hown5, b5⟩
        have B5 := Lib.hid (B4.out.trans (b5.mono B4.out.size))
        have R3'' := Lib.hid (Kd.C_below R3'.out b5)
        have O4' := Lib.hid (own_below O4.out b5)
        have hcells := Lib.hid (SliceIn.of_own hown5)
        have b35 := B45.out.trans (b5.mono B45.out.size)
        have hzz : w3.heap.size ≤ w5.heap.size := b35.size
        have B35 := Lib.hid b35
        clear b35
        clear b5 hown5 hr5
        go_wp2_with (at_builtin; refine wpList_append_in rfl _ _ 26 rfl w3.heap.size 63 i0 (.agg #[.int .i64 0, .string ByteArray.empty, .int .i64 0, .int .i64 0]) 4 40 Tryz.underlying26 hi hz0 hz1 hz2 rfl (by decide) _ _ _ rfl O4'.out w5.heap.size l2.length _ (wrow l2) rfl hcells.out (wrow_one l2) (by unfold maxLen; omega) (by omega) hzz ?_; intro v6 w6 hown6 hg6; rw [← wrow_append, ← List.length_append] at hown6; obtain ⟨A6, c6, hv6, hc6, hr6⟩ := refs_read (by rw [List.length_append]; omega) hown6; rw [List.length_append] at hv6 hc6 hr6; subst hv6; have B36 := Lib.hid (B35.out.grown hg6 hzz (fun g e => (O4'.out.lt g e).1)); have R6 := Lib.hid hr6; clear hown6 hg6 hr6)
        have B6 := Lib.hid (B3.out.trans (B36.out.mono B3.out.size))
        have RZ := Lib.hid (Kd.C_below R3.out B36.out)
        go_wp2_with fail
        refine (taken_n _ A3 c3 (l1.length + X'.length) (l1 ++ X') (List.length_append ..) (by omega) (by have := RZ.out; rwa [List.length_append] at this) hc3').mono ?_
        rintro e w7 ⟨A7, c7, rfl, hc7, hr7, _, b7⟩
        have B7 := Lib.hid (B6.out.trans (b7.mono B6.out.size))
        have R7 := Lib.hid hr7
        have R6' := Lib.hid (Kd.C_below R6.out b7)
        clear b7 hr7
        go_wp2_with fail
        refine (same2_n _ A7 A6 c7 c6 (l1.length + X'.length) (l1.length + l2.length) (l1 ++ X') (l1 ++ l2) HST.out (List.length_append ..) (by rw [HLX.out]) (by omega) R7.out hc7 R6'.out hc6).mono ?_
        rintro e w8 ⟨rfl, b8⟩
        have B8 := Lib.hid (B7.out.trans (b8.mono B7.out.size))
        clear b8
        go_wp2_with fail
        refine (known24_any _ (HS.out.mono B8.out)).mono ?_
        rintro e w9 ⟨rfl, b9⟩
        have B9 := Lib.hid (B8.out.trans (b9.mono B8.out.size))
        clear b9
        go_wp2
        go_ret
        exact ⟨rfl, B9.out⟩
      · have h2 := HR2.out
        rw [q1] at h2
        simp only [Prod.mk.injEq] at h2
        obtain ⟨rfl, rfl, rfl⟩ := h2
        rw [q2] at h3
        dsimp only at h3
        rw [bl_len] at h3
        have H3 := Lib.hid h3
        have hab : a.size ≤ 16384 := by have := hsz; rw [bl_len, bl_len] at this; omega
        have hp : 0 ≤ at2 ∧ at2 ≤ 16384 := by have := lexL_at (bl b); rw [q1] at this; exact this
        have hpe : (at2 + (a.size : Int) + 1 == at2 + (a.size : Int) + 1) = true := beq_self_eq_true _
        clear h3 hs3 hs3n hok q1 q2 HR1 HR2 hsz
        go_enter Tryz.func4, Tryz.ntmps4
        go_wp2_with fail
        refine H1.out.mono ?_
        rintro e w1 ⟨v1, rfl, hown1, b1⟩
        have B1 := Lib.hid b1
        clear hown1 b1
        go_wp2_with fail
        refine (H2.out _ (HS.out.mono B1.out)).mono ?_
        rintro e w2 ⟨v2, rfl, hown2, b2⟩
        have B2 := Lib.hid (B1.out.trans (b2.mono B1.out.size))
        clear hown2 b2
        go_wp2_with fail
        refine (H3.out _ (HS.out.mono B2.out)).mono ?_
        rintro e w3 ⟨v3, rfl, hown3, b3⟩
        obtain ⟨A3, c3, rfl, hc3, hr3⟩ := words_read (by simp) hown3
        have B3 := Lib.hid (B2.out.trans (b3.mono B2.out.size))
        clear hown3 b3 hr3
        go_wp2_with fail
        refine (known24_any _ (HS.out.mono B3.out)).mono ?_
        rintro e w4 ⟨rfl, b4⟩
        have B4 := Lib.hid (B3.out.trans (b4.mono B3.out.size))
        clear b4
        go_wp2
        go_ret
        exact ⟨rfl, B4.out⟩
    · have hq1 : (e1 != 0) = true := by simp [he1]
      have hq2 : (e1 == 0) = false := by simp [he1]
      clear he1
      go_enter Tryz.func4, Tryz.ntmps4
      go_wp2_with fail
      refine H1.out.mono ?_
      rintro e w1 ⟨v1, rfl, hown1, b1⟩
      have B1 := Lib.hid b1
      clear hown1 b1
      go_wp2_with fail
      refine (H2.out _ (HS.out.mono B1.out)).mono ?_
      rintro e w2 ⟨v2, rfl, hown2, b2⟩
      have B2 := Lib.hid (B1.out.trans (b2.mono B1.out.size))
      clear hown2 b2
      go_wp2_with fail
      refine (known24_any _ (HS.out.mono B2.out)).mono ?_
      rintro e w3 ⟨rfl, b3⟩
      have B3 := Lib.hid (B2.out.trans (b3.mono B2.out.size))
      clear b3
      go_wp2
      go_ret
      exact ⟨rfl, B3.out⟩
end Go.Proofs.YtcaigcmbgihhkaaGreatDoor
