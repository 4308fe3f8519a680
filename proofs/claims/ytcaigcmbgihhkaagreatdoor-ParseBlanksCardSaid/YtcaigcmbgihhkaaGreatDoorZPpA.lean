/-
  Part of a proof: Laid.
-/
import Derived.Test.YtcaigcmbgihhkaaGreatDoorZWord
import Derived.Test.YtcaigcmbgihhkaaGreatDoorRows
import Derived.MakeChecks
namespace Go.Proofs.YtcaigcmbgihhkaaGreatDoor
open Go Go.RowKit Go.Shelf
set_option linter.unusedVariables false
set_option linter.unusedSimpArgs false
theorem tSpace : (Tryz.prog.globals[0]?).map (·.type) = some 181 := by kernel_rfl
theorem laid_space : (Rows.laid_strings_asciiSpace : DataW Unit) = Lib.tabData .u8 Lib.asciiSpaceTab := by kernel_rfl
theorem cSpace : Tryz.prog.cellsOf 181 = 256 := by kernel_rfl
theorem cSpace1 : Tryz.prog.cellsOf 5 = 1 := by kernel_rfl
theorem space_of_laid {W : World} (h : laidMetH Tryz.prog [("unicode/utf8.acceptRanges", Rows.laid_unicode_utf8_acceptRanges), ("unicode.White_Space", Rows.laid_unicode_White_Space), ("strings.asciiSpace", Rows.laid_strings_asciiSpace), ("unicode/utf8.first", Rows.laid_unicode_utf8_first)] W) : SpaceAt W := by
  rw [MakeChecks.laidMetH_plain _ _ _ (by kernel_rfl)] at h
  obtain ⟨ps, hv, _⟩ := h
  obtain ⟨_, _, _, _, _, _, _, _, _, _, h2, _⟩ := hv
  obtain ⟨_, _, _, _, _, _, _, _, _, _, h3, _⟩ := h2
  obtain ⟨g, t, cs, fuel, p, q, hg, ht, hvar, hd, _, _⟩ := h3
  obtain rfl := Option.some.inj (gSpace.symm.trans hg)
  obtain rfl := Option.some.inj (tSpace.symm.trans ht)
  rw [laid_space] at hd
  unfold SpaceAt Lib.TabIs
  rw [hvar, ← Lib.cells_of_tab Tryz.underlying181 Tryz.underlying5 cSpace1 cSpace hd]
end Go.Proofs.YtcaigcmbgihhkaaGreatDoor
