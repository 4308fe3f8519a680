/-
  Part of a proof: PpA, PpW, Laid.
-/
import Derived.Test.YtcaigcmbgihhkaaDoorZSmA
import Derived.Test.YtcaigcmbgihhkaaDoorZPsA
import Derived.Test.YtcaigcmbgihhkaaDoorZRef
import Derived.Test.YtcaigcmbgihhkaaDoorZWord
import Derived.Test.YtcaigcmbgihhkaaDoorRows
import Derived.MakeChecks
namespace Go.Proofs.YtcaigcmbgihhkaaDoor
open Go Go.RowKit Go.Shelf
set_option linter.unusedVariables false
set_option linter.unusedSimpArgs false
attribute [local go_sem] Oper.semAt_some
def WordsIn (W : World) (l : List WordD) (v : Value) : Prop :=
  ∃ ao c, v = .slice ao l.length c ∧ l.length ≤ c ∧ c ≤ maxLen ∧ (l ≠ [] → ∃ g o, ao = some ⟨g, o, none⟩ ∧ ∀ j x i u, l[j]? = some x → (wcells x)[i]? = some u → W.cell? ⟨g, o + j * 4 + i, none⟩ = some u)
theorem WordsIn.later {W W' : World} {l : List WordD} {v : Value} (h : WordsIn W l v) (hb : Below W.heap.size W W') : WordsIn W' l v := by
  obtain ⟨ao, c, h1, h2, h3, h4⟩ := h
  refine ⟨ao, c, h1, h2, h3, fun hne => ?_⟩
  obtain ⟨g, o, e, hc⟩ := h4 hne
  refine ⟨g, o, e, fun j x i u hx hu => ?_⟩
  have := hc j x i u hx hu
  exact (World.cell?_of_block (a := ⟨g, o + j * 4 + i, none⟩) (hb.block g (cell_lt this))).trans this
theorem WordsIn.form {W : World} {l : List WordD} {v : Value} (h : WordsIn W l v) : ∃ ao c, v = .slice ao l.length c := by
  obtain ⟨ao, c, h, _⟩ := h
  exact ⟨ao, c, h⟩
theorem WordsIn.at_ {W : World} {l : List WordD} {v : Value} {k : Nat} {a : WordD} (h : WordsIn W l v) (hk : l[k]? = some a) : ∃ g o c, v = .slice (some ⟨g, o, none⟩) l.length c ∧ l.length ≤ c ∧ c ≤ maxLen ∧
    W.cell? ⟨g, o + k * 4, none⟩ = some (.int .i64 a.kind) ∧ W.cell? ⟨g, o + k * 4 + 1, none⟩ = some (.string (mkB a.text)) ∧ W.cell? ⟨g, o + k * 4 + 2, none⟩ = some (.int .i64 a.n) ∧ W.cell? ⟨g, o + k * 4 + 3, none⟩ = some (.int .i64 a.at_) := by
  obtain ⟨ao, c, rfl, h1, h2, h3⟩ := h
  have hne : l ≠ [] := by rintro e; rw [e] at hk; simp at hk
  obtain ⟨g, o, rfl, hc⟩ := h3 hne
  exact ⟨g, o, c, rfl, h1, h2, hc k a 0 _ hk rfl, hc k a 1 _ hk rfl, hc k a 2 _ hk rfl, hc k a 3 _ hk rfl⟩
set_option maxRecDepth 100000 in
set_option maxHeartbeats 2000000 in
theorem stands_any (w : World) (v : Value) (n : Int) (l : List WordD) (name : Bs) (p : Int) (h : WordsIn w l v) (hu : UpL n l) (hn : NameW l (name, p)) :
    Calls Tryd.prog 16 #[v, .string (mkB name), .int .i64 p] w fun e w' => e = .returned (.bool true) ∧ w = w' := by
  obtain ⟨i, x, hx, x1, x2, x3, hlt⟩ := stands_of hu hn
  subst x1 x3
  obtain ⟨ao, c, rfl⟩ := h.form
  have hl3 : (l.length : Int) ≤ 9223372036854775807 := by
    obtain ⟨_, _, e, h1, h2, _⟩ := h
    unfold maxLen at h2
    omega
  have hil : i < l.length := (List.getElem?_eq_some_iff.1 hx).1
  have H := Lib.hid h
  have HLT := Lib.hid hlt
  have HX := Lib.hid hx
  obtain ⟨m, hm⟩ : ∃ m, m = l.length := ⟨_, rfl⟩
  rw [← hm] at hl3 hil ⊢
  have HM := Lib.hid hm
  clear h hu hn hlt hx hm
  go_enter Tryd.func16, Tryd.ntmps16
  go_wp2_with fail
  go_loopw [7] (fun s7 wr => ∃ (k : Nat), k ≤ i ∧ s7 = .int .i64 (k : Int) ∧ w = wr) (fun s7 _ => m - (intOf s7).toNat)
  case atStart => exact ⟨0, Nat.zero_le _, rfl, rfl⟩
  case round =>
    obtain ⟨k, hk, rfl, rfl⟩ := hrel
    have hkm : k < m := by omega
    obtain ⟨y, hy⟩ : ∃ y, l[k]? = some y := ⟨_, List.getElem?_eq_getElem (by rw [← HM.out]; exact hkm)⟩
    obtain ⟨g, o, c1, e, q1, q2, a0, a1, a2, a3⟩ := H.out.at_ hy
    simp only [Value.slice.injEq] at e
    obtain ⟨rfl, -, rfl⟩ := e
    have lg := cell_lt a0
    by_cases hki : k = i
    · subst hki
      have hxy : y = x := by have := HX.out; rw [hy] at this; exact Option.some.inj this
      subst hxy
      rw [x2] at a0
      clear hy
      go_wp2_with fail
      go_ret
      exact ⟨rfl, rfl⟩
    · have hne : ¬ y.at_ = x.at_ := HLT.out k y (by omega) hy
      clear hy
      go_wp2_with fail
      go_roundw
      case rel => exact ⟨k + 1, by omega, by go_num, trivial⟩
      case measure => simp [intOf]; omega
end Go.Proofs.YtcaigcmbgihhkaaDoor
namespace Go.Proofs.YtcaigcmbgihhkaaDoor
open Go Go.RowKit Go.Shelf Go.Proofs.YtcaigcmbgihhkaaDoorW.PrintWords Go.Proofs.YtcaigcmbgihhkaaDoor.PWords
set_option linter.unusedVariables false
set_option linter.unusedSimpArgs false
theorem wordsIn_of {w w' : World} {base : Nat} {v : Value} {l : List WordD} (h : Kd.R k78 78 w' base (fun _ => True) v (l.map toS)) : WordsIn w' l v := by
  obtain ⟨A, c, rfl, hc, hl, hb, hr⟩ := Kd.R_reads h
  obtain ⟨inner, ho⟩ := Kd.R_own h
  rw [List.length_map] at hc hr ho ⊢
  have hm : c ≤ maxLen := by
    rcases ho.2 with ⟨e, _⟩ | ⟨g, cap, cur, e, _, _, _, h2, _⟩
    · simp only [Value.slice.injEq] at e
      obtain ⟨_, _, rfl⟩ := e
      exact Nat.zero_le _
    · simp only [Value.slice.injEq] at e
      obtain ⟨_, _, rfl⟩ := e
      exact h2
  refine ⟨A, c, rfl, hc, hm, fun hne => ?_⟩
  obtain ⟨ad, e, hcell⟩ := hr (List.length_pos_iff.2 hne)
  subst e
  have hnone : ∃ g o, ad = ⟨g, o, none⟩ := by
    rcases ho.2 with ⟨e, _⟩ | ⟨g, cap, cur, e, _⟩
    · cases e
    · simp only [Value.slice.injEq, Option.some.injEq] at e
      exact ⟨g, 0, e.1⟩
  obtain ⟨g, o, rfl⟩ := hnone
  refine ⟨g, o, rfl, fun j x i u hx hu => ?_⟩
  obtain ⟨cs, hlen, hK, hcs⟩ := hcell j (toS x) (by rw [List.getElem?_map, hx]; rfl)
  obtain rfl := k78_open hK
  have := hcs i u hu
  rw [addr_add_lit, ← Nat.add_assoc] at this
  exact this
theorem words24_any (s : ByteArray) (hs : s.size ≤ 140737488351232) (w : World) : Calls Tryd.prog 15 #[.string s] w fun e w' => ∃ v, e = .returned (.tuple #[v, .int .i64 (lexL (bl s)).2.1, .int .i64 (lexL (bl s)).2.2]) ∧ WordsIn w' (lexL (bl s)).1 v ∧ Below w.heap.size w w' := by
  obtain ⟨k, hk⟩ := words_tells s hs
  have hk' := hk k (Nat.le_refl _)
  rw [wsres] at hk'
  refine (hornbookref24_Words.calls k s _ _ _ w hk').mono ?_
  rintro e w' ⟨v, rfl, hR, hb⟩
  exact ⟨v, rfl, wordsIn_of (w := w) hR, hb⟩
end Go.Proofs.YtcaigcmbgihhkaaDoor
namespace Go.Proofs.YtcaigcmbgihhkaaDoor
open Go Go.RowKit Go.Shelf
set_option linter.unusedVariables false
set_option linter.unusedSimpArgs false
theorem tSpace : (Tryd.prog.globals[0]?).map (·.type) = some 123 := by kernel_rfl
theorem laid_space : (Rows.laid_strings_asciiSpace : DataW Unit) = Lib.tabData .u8 Lib.asciiSpaceTab := by kernel_rfl
theorem cSpace : Tryd.prog.cellsOf 123 = 256 := by kernel_rfl
theorem cSpace1 : Tryd.prog.cellsOf 5 = 1 := by kernel_rfl
theorem space_of_laid {W : World} (h : laidMetH Tryd.prog [("unicode/utf8.acceptRanges", Rows.laid_unicode_utf8_acceptRanges), ("unicode.White_Space", Rows.laid_unicode_White_Space), ("strings.asciiSpace", Rows.laid_strings_asciiSpace), ("unicode/utf8.first", Rows.laid_unicode_utf8_first)] W) : SpaceAt W := by
  rw [MakeChecks.laidMetH_plain _ _ _ (by kernel_rfl)] at h
  obtain ⟨ps, hv, _⟩ := h
  obtain ⟨_, _, _, _, _, _, _, _, _, _, h2, _⟩ := hv
  obtain ⟨_, _, _, _, _, _, _, _, _, _, h3, _⟩ := h2
  obtain ⟨g, t, cs, fuel, p, q, hg, ht, hvar, hd, _, _⟩ := h3
  obtain rfl := Option.some.inj (gSpace.symm.trans hg)
  obtain rfl := Option.some.inj (tSpace.symm.trans ht)
  rw [laid_space] at hd
  unfold SpaceAt Lib.TabIs
  rw [hvar, ← Lib.cells_of_tab Tryd.underlying123 Tryd.underlying5 cSpace1 cSpace hd]
end Go.Proofs.YtcaigcmbgihhkaaDoor
