/-
  lex.Words in a law: any source; what is read of words; the fixed calls.
  The law on any source's words: its walk.
-/
import Derived.Test.YtcaigcmbgihhkaaGreatDoorZIt
import Derived.Test.YtcaigcmbgihhkaaGreatDoorZRepE
import Derived.Test.YtcaigcmbgihhkaaGreatDoorPLexWordsx7
import Derived.Test.YtcaigcmbgihhkaaGreatDoorRows
import Derived.LaidMore
import Derived.Lib.LaidTab
import Derived.MakeChecks
namespace Go.Proofs.YtcaigcmbgihhkaaGreatDoor
open Go Go.RowKit Go.Shelf Go.Proofs.YtcaigcmbgihhkaaGreatDoorW.PrintWords Go.Proofs.YtcaigcmbgihhkaaGreatDoor.PLexWords
set_option linter.unusedVariables false
set_option linter.unusedSimpArgs false
attribute [local go_sem] Oper.semAt_some
theorem words_any (w : World) (s : ByteArray) (hs : s.size ≤ 140737488351232) (hS : SpaceAt w) :
    Calls Tryz.prog 9 #[.string s] w fun e w' => ∃ v, e = .returned (.tuple #[v, .int .i64 (lexL (bl s)).2.1, .int .i64 (lexL (bl s)).2.2]) ∧ w'.ownsRow w.heap.size 36 4 v (lexL (bl s)).1.length (wrow (lexL (bl s)).1) ∧ Below w.heap.size w w' := by
  by_cases h : s.size ≤ 16384
  · exact (callsIn_wide (n := 3)).1 (words_in w s h hS)
  · have hl : lexL (bl s) = ([], 0, 6) := by rw [lexL, bl_len, if_pos (by omega)]
    rw [hl]
    exact (words_long w s (by omega) hs).mono fun e w' ⟨h1, h2⟩ => ⟨_, h1, World.ownsRow_nil _ _ _ _, h2⟩
def toP (w : WordD) : S36 := ⟨w.kind, mkB w.text, w.n, w.at_⟩
theorem wrow_get (l : List WordD) (j : Nat) (x : WordD) (h : l[j]? = some x) (i : Nat) (u : Value) (hu : (wcells x)[i]? = some u) : (wrow l)[j * 4 + i]? = some u := by
  induction l generalizing j with
  | nil => simp at h
  | cons y r ih =>
    have hl : (wcells y).length = 4 := rfl
    have hi : i < 4 := by have := (List.getElem?_eq_some_iff.1 hu).1; exact this
    rw [wrow, List.flatMap_cons]
    cases j with
    | zero =>
      simp at h
      subst h
      rw [Nat.zero_mul, Nat.zero_add, List.getElem?_append_left (by omega)]
      exact hu
    | succ j =>
      rw [List.getElem?_append_right (by omega), show (j + 1) * 4 + i - (wcells y).length = j * 4 + i by omega]
      exact ih j (by simpa using h)
theorem words_read {W : World} {base : Nat} {v : Value} {l : List WordD} (hl : l.length ≤ 9223372036854775807) (h : W.ownsRow base 36 4 v l.length (wrow l)) : ∃ A c, v = .slice A l.length c ∧ l.length ≤ c ∧ Kd.C k36 W A l.length (l.map toP) := by
  obtain ⟨h1, ⟨rfl, h0⟩ | ⟨g, cap, cur, rfl, h2, h3, h4, h5, h6, h7⟩⟩ := h
  · have : l = [] := List.eq_nil_of_length_eq_zero h0
    subst this
    exact ⟨none, 0, rfl, Nat.le_refl _, rfl, by simp, fun h => absurd h (by simp)⟩
  · refine ⟨some ⟨g, 0, none⟩, cap, rfl, h4, List.length_map _, hl, fun _ => ⟨_, rfl, fun j p hp => ?_⟩⟩
    rw [List.getElem?_map, Option.map_eq_some_iff] at hp
    obtain ⟨x, hx, rfl⟩ := hp
    refine ⟨wcells x, rfl, k36_mk W (toP x), fun i u hu => ?_⟩
    have hj := (List.getElem?_eq_some_iff.1 hx).1
    have hi : i < 4 := (List.getElem?_eq_some_iff.1 hu).1
    have hc : W.cell? ⟨g, j * 4 + i, none⟩ = cur[j * 4 + i]? := by simp [World.cell?, show W.heap[g]? = _ from h3]
    have e4 : k36.sz = 4 := rfl
    rw [e4, addr_add_lit, Nat.zero_add, hc, take_get h7 _ (by omega)]
    exact wrow_get l j x hx i u hu
theorem lexFrom_len (size : Nat) : ∀ (m : Nat) (l : Bs) (acc : List WordD), (lexFrom size m l acc).1.length ≤ acc.length + l.length
  | 0, l, acc => by simp [lexFrom]
  | m + 1, l, acc => by
    rw [lexFrom]
    split
    · simp
    · split
      · simp
      · rename_i k t v n hw
        obtain ⟨h1, h2, _⟩ := wordL_n hw
        have h3 := skipL_len (l.drop n)
        have h4 := lexFrom_len size m (skipL (l.drop n)) (acc ++ [⟨k, t, v, ((size - l.length : Nat) : Int)⟩])
        rw [List.length_drop] at h3
        simp only [List.length_append, List.length_singleton] at h4
        omega
theorem lexL_len (l : Bs) : (lexL l).1.length ≤ 16384 := by
  unfold lexL
  split
  · simp
  · have h1 := lexFrom_len l.length (l.length + 1) (skipL l) []
    have h2 := skipL_len l
    simp only [List.length_nil] at h1
    omega
def knownS : ByteArray := ⟨#[115, 101, 116, 32, 120, 32, 61, 32, 34, 97, 92, 110, 34, 59]⟩
theorem known_lex : lexL (bl knownS) = ([⟨5, [115, 101, 116], 0, 0⟩, ⟨1, [120], 0, 4⟩, ⟨4, [61], 0, 6⟩, ⟨3, [97, 10], 0, 8⟩, ⟨4, [59], 0, 13⟩], 0, 0) := by decide +kernel
theorem known_q : [34] ++ qL (bl ⟨#[97, 10]⟩) ++ [34] = [34, 97, 92, 110, 34] := by decide +kernel
set_option maxRecDepth 100000 in
set_option maxHeartbeats 4000000 in
theorem known24_any (w : World) (hS : SpaceAt w) : Calls Tryz.prog 13 #[] w fun e w' => e = .returned (.bool true) ∧ Below w.heap.size w w' := by
  have h1 := words_any w knownS (by decide) hS
  rw [known_lex] at h1
  have h2 := fun w => quote_any w ⟨#[97, 10]⟩ (by decide)
  rw [known_q] at h2
  have H1 := Lib.hid h1
  have H2 := Lib.hid h2
  clear h1 h2 hS
  go_enter Tryz.func13, Tryz.ntmps13
  go_wp2_with fail
  refine H1.out.mono ?_
  rintro e w1 ⟨v, rfl, hown, hb⟩
  obtain ⟨g', cap', rfl⟩ := ownsRow_succ hown
  have hc := fun i u hu => (by have := hown.cells (g := g') rfl i u hu; rw [addr_add_lit, Nat.zero_add] at this; exact this : w1.cell? ⟨g', i, none⟩ = some u)
  have c0 := hc 0 _ rfl
  have c4 := hc 4 _ rfl
  have c8 := hc 8 _ rfl
  have c12 := hc 12 _ rfl
  have c13 := hc 13 _ rfl
  have c19 := hc 19 _ rfl
  have HB := Lib.hid hb
  clear hc hown hb
  go_wp2_with (go_at_call 29; refine (H2.out _).mono ?_; rintro e w2 ⟨rfl, hb2⟩; have HB2 := Lib.hid hb2; clear hb2)
  go_ret
  refine ⟨?_, HB.out.trans (HB2.out.mono HB.out.size)⟩
  have e : ((mkB [34, 97, 92, 110, 34]).toList == [34, 97, 92, 110, 34]) = true := by rw [toList_bl, bl_mkB]; rfl
  show Ending.returned (.bool ((mkB [34, 97, 92, 110, 34]).toList == [34, 97, 92, 110, 34])) = _
  rw [e]
end Go.Proofs.YtcaigcmbgihhkaaGreatDoor

namespace Go.Proofs.YtcaigcmbgihhkaaGreatDoor
open Go Go.RowKit Go.Shelf Go.Proofs.YtcaigcmbgihhkaaGreatDoorW.PrintWords Go.Proofs.YtcaigcmbgihhkaaGreatDoor.PLexWords
set_option linter.unusedVariables false
set_option linter.unusedSimpArgs false
attribute [local go_sem] Oper.semAt_some
theorem tSpace : (Tryz.prog.globals[0]?).map (·.type) = some 181 := by kernel_rfl
theorem laid_space : (Rows.laid_strings_asciiSpace : DataW Unit) = Lib.tabData .u8 Lib.asciiSpaceTab := by kernel_rfl
theorem cSpace : Tryz.prog.cellsOf 181 = 256 := by kernel_rfl
theorem cSpace1 : Tryz.prog.cellsOf 5 = 1 := by kernel_rfl
theorem space_of_laid {W : World} (h : laidMetH Tryz.prog [("unicode/utf8.acceptRanges", Rows.laid_unicode_utf8_acceptRanges), ("unicode.White_Space", Rows.laid_unicode_White_Space), ("strings.asciiSpace", Rows.laid_strings_asciiSpace), ("unicode/utf8.first", Rows.laid_unicode_utf8_first)] W) : SpaceAt W := by
  rw [MakeChecks.laidMetH_plain _ _ _ (by kernel_rfl)] at h
  obtain ⟨ps, hv, _⟩ := h
  obtain ⟨_, _, _, _, _, _, _, _, _, _, h2, _⟩ := hv
  obtain ⟨_, _, _, _, _, _, _, _, _, _, h3, _⟩ := h2
  obtain ⟨g, t, cs, fuel, p, q, hg, ht, hvar, hd, _, _⟩ := h3
  obtain rfl := Option.some.inj (gSpace.symm.trans hg)
  obtain rfl := Option.some.inj (tSpace.symm.trans ht)
  rw [laid_space] at hd
  unfold SpaceAt Lib.TabIs
  rw [hvar, ← Lib.cells_of_tab Tryz.underlying181 Tryz.underlying5 cSpace1 cSpace hd]
theorem toS_len (l : List WordD) : (l.map toS).length = l.length := List.length_map _
theorem taken_loop (l : List WordD) : ∀ (m : Nat) (j : Nat), l.length = j + m → l.length ≤ 100000 →
    hornbooklaw24_taken.l0 (m + 1) (l.map toP) ((l.take j).map toS) (j : Int) = some (l.map toS)
  | 0, j, hj, _ => by
    rw [hornbooklaw24_taken.l0, if_neg (by rw [List.length_map]; omega), List.take_of_length_le (by omega)]
  | m + 1, j, hj, hb => by
    have hlt : j < l.length := by omega
    have e : rd_T36 (l.map toP) (j : Int) = toP l[j] := by
      simp [rd_T36, hlt]
    rw [hornbooklaw24_taken.l0, if_pos (by rw [List.length_map]; omega), if_pos (by omega), if_pos (by rw [List.length_map, List.length_take]; omega), e]
    have ew : wrap64 ((j : Int) + 1) = ((j + 1 : Nat) : Int) := by unfold wrap64; omega
    rw [ew]
    have et : (l.take (j + 1)).map toS = (l.take j).map toS ++ [(⟨(toP l[j]).f0, (toP l[j]).f1, (toP l[j]).f2, (toP l[j]).f3⟩ : S63)] := by
      rw [List.take_succ_eq_append_getElem hlt, List.map_append]; rfl
    rw [← et]
    exact taken_loop l m (j + 1) (by omega) hb
theorem taken_tells (l : List WordD) (hb : l.length ≤ 100000) : hornbooklaw24_taken.f (l.length + 1) (l.map toP) = some (l.map toS) := taken_loop l l.length 0 (by omega) hb
theorem same_loop (a : Bool) (l : List S63) : ∀ (m : Nat) (j : Nat), l.length = j + m → l.length ≤ 1000000 → hornbookref24_Same.l0 (m + 1) l l a (j : Int) = some true
  | 0, j, hj, _ => by rw [hornbookref24_Same.l0, if_neg (by omega)]
  | m + 1, j, hj, hb => by
    have ew : wrap64 ((j : Int) + 1) = ((j + 1 : Nat) : Int) := by unfold wrap64; omega
    rw [hornbookref24_Same.l0, if_pos (by omega), if_pos (by omega), if_pos (by omega), if_pos rfl, if_pos rfl, if_pos rfl, if_pos rfl, ew, same_loop a l m (j + 1) (by omega) hb]
    simp
theorem same_tells (a : Bool) (l : List S63) (hb : l.length ≤ 1000000) : hornbookref24_Same.f (l.length + 1) l l a = some true := by
  rw [hornbookref24_Same.f, if_pos rfl]
  exact same_loop a l l.length 0 (by omega) hb
theorem reps_wrow (l : List WordD) (inner : List Value) (h : Reps (fun (x : S63) cs => cs = [.int .i64 x.f0, .string x.f1, .int .i64 x.f2, .int .i64 x.f3]) 4 (l.map toS) inner) : inner = wrow l := by
  obtain ⟨h1, h2⟩ := h
  rw [List.length_map] at h1
  apply List.ext_getElem?
  intro i
  by_cases hi : i < l.length * 4
  · have hj : i / 4 < l.length := by omega
    have hx : l[i / 4]? = some l[i / 4] := List.getElem?_eq_getElem hj
    have e := h2 (i / 4) (toS l[i / 4]) (by rw [List.getElem?_map, hx]; rfl)
    have e2 : inner[i]? = ((inner.drop (i / 4 * 4)).take 4)[i % 4]? := by
      rw [List.getElem?_take_of_lt (by omega), List.getElem?_drop]
      congr 1
      omega
    rw [e2, e]
    have e3 := wrow_get l (i / 4) l[i / 4] hx (i % 4)
    have hr : i % 4 < 4 := by omega
    have hwl : (wcells l[i / 4]).length = 4 := rfl
    obtain ⟨u, hu⟩ : ∃ u, (wcells l[i / 4])[i % 4]? = some u := ⟨_, List.getElem?_eq_getElem (by rw [hwl]; exact hr)⟩
    have := e3 u hu
    rw [show i / 4 * 4 + i % 4 = i by omega] at this
    rw [this]
    exact hu
  · rw [List.getElem?_eq_none (by omega), List.getElem?_eq_none (by rw [wrow_length]; omega)]
theorem taken_any (w : World) (A : Option Addr) (c : Nat) (l : List WordD) (hb : l.length ≤ 100000) (hr : Kd.C k36 w A l.length (l.map toP)) (hc : l.length ≤ c) :
    Calls Tryz.prog 12 #[.slice A l.length c] w fun e w' => ∃ A' c', e = .returned (.slice A' l.length c') ∧ l.length ≤ c' ∧ Kd.C k63 w' A' l.length (l.map toS) ∧ w'.ownsRow w.heap.size 63 4 (.slice A' l.length c') l.length (wrow l) ∧ Below w.heap.size w w' := by
  have h := hornbooklaw24_taken.calls (l.length + 1) A c (l.map toP) (l.map toS) w (by rw [List.length_map]; exact hr) (by rw [List.length_map]; exact hc) (taken_tells l hb)
  rw [List.length_map] at h
  refine h.mono fun e w' ⟨v, he, hR, hbl⟩ => ?_
  obtain ⟨A', c', hv, h1, h2⟩ := Kd.R_reads hR
  rw [List.length_map] at hv h1 h2
  subst hv
  obtain ⟨_, inner, ho, hreps⟩ := hR
  refine ⟨A', c', he, h1, h2, ?_, hbl⟩
  rw [List.length_map] at ho
  have : inner = wrow l := reps_wrow l inner (hreps.imp_ (fun p c hp => k63_openM hp))
  rw [← this]
  exact ho
theorem same_any (w : World) (A A' : Option Addr) (c c' : Nat) (n : Nat) (l : List S63) (a : Bool) (hn : l.length = n) (hb : n ≤ 1000000) (h1 : Kd.C k63 w A n l) (h2 : n ≤ c) (h3 : Kd.C k63 w A' n l) (h4 : n ≤ c') :
    Calls Tryz.prog 11 #[.slice A n c, .slice A' n c', .bool a] w fun e w' => e = .returned (.bool true) ∧ Below w.heap.size w w' := by
  subst hn
  exact (hornbookref24_Same.calls (l.length + 1) A c l A' c' l a true w h1 h2 h3 h4 (same_tells a l hb)).mono fun e w' ⟨he, n, hn⟩ => ⟨he, by rw [hn]; exact pw_below_drewN (Below.refl _ _) n⟩
set_option maxRecDepth 100000 in
set_option maxHeartbeats 4000000 in
theorem lexWords_any (s : ByteArray) (hs : s.size ≤ 140737488351232) (W : World) (hS : SpaceAt W) : Calls Tryz.prog 3 #[.string s] W fun e W' => e = .returned (.bool true) ∧ Below W.heap.size W W' := by
  obtain ⟨R, hR⟩ : ∃ R, R = lexL (bl s) := ⟨_, rfl⟩
  have hlen := lexL_len (bl s)
  have h1 := words_any W s hs hS
  have h2 : ∀ w, Calls Tryz.prog 10 #[.string s] w fun e w' => ∃ v0_ : Value, e = .returned (.tuple #[v0_, .int .i64 R.2.1, .int .i64 R.2.2]) ∧ Kd.R k63 63 w' w.heap.size (fun _ => True) v0_ (R.1.map toS) ∧ Below w.heap.size w w' := by
    obtain ⟨k, hk⟩ := words_tells s hs
    have hk' := hk k (Nat.le_refl _)
    rw [wsres, ← hR] at hk'
    exact fun w => hornbookref24_Words.calls k s _ _ _ w hk'
  rw [← hR] at h1 hlen
  clear hR
  obtain ⟨l, at_, er⟩ := R
  dsimp only at h1 h2 hlen
  have H1 := Lib.hid h1
  have H2 := Lib.hid h2
  have HS := Lib.hid hS
  clear h1 h2 hS
  go_enter Tryz.func3, Tryz.ntmps3
  go_wp2_with fail
  refine H1.out.mono ?_
  rintro e w1 ⟨v1, rfl, hown1, b1⟩
  obtain ⟨A1, c1, rfl, hc1, hr1⟩ := words_read (by omega) hown1
  have B1 := Lib.hid b1
  have R1 := Lib.hid hr1
  clear hown1 hr1 b1
  go_wp2_with fail
  refine (H2.out _).mono ?_
  rintro e w2 ⟨v2, rfl, hR2, b2⟩
  obtain ⟨A2, c2, hv2, hc2, hr2⟩ := Kd.R_reads hR2
  rw [List.length_map] at hv2 hc2 hr2
  subst hv2
  have B2 := Lib.hid (B1.out.trans (b2.mono B1.out.size))
  have R2 := Lib.hid hr2
  have R1' := Lib.hid (Kd.C_below R1.out b2)
  clear hR2 hr2 b2
  go_wp2_with fail
  refine (taken_any _ _ _ l (by omega) R1'.out hc1).mono ?_
  rintro e w3 ⟨A3, c3, rfl, hc3, hr3, _, b3⟩
  have B3 := Lib.hid (B2.out.trans (b3.mono B2.out.size))
  have R3 := Lib.hid hr3
  have R2' := Lib.hid (Kd.C_below R2.out b3)
  clear hr3 b3
  go_wp2_with fail
  refine (same_any _ _ _ _ _ _ (l.map toS) true (List.length_map _) (by omega) R3.out hc3 R2'.out hc2).mono ?_
  rintro e w4 ⟨rfl, b4⟩
  have B4 := Lib.hid (B3.out.trans (b4.mono B3.out.size))
  clear b4
  have q1 : (at_ == at_) = true := beq_self_eq_true _
  have q2 : (er == er) = true := beq_self_eq_true _
  go_wp2_with fail
  refine (known24_any _ (HS.out.mono B4.out)).mono ?_
  rintro e w5 ⟨rfl, b5⟩
  have B5 := Lib.hid (B4.out.trans (b5.mono B4.out.size))
  clear b5
  go_wp2
  go_ret
  exact ⟨rfl, B5.out⟩
end Go.Proofs.YtcaigcmbgihhkaaGreatDoor
