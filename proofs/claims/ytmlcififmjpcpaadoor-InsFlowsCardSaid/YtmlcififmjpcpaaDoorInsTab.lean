/-
  The table of the instructions as data: its cells, out of what the card lays.
-/
import Derived.Test.YtmlcififmjpcpaaDoorRows
import Derived.Deep.MidRow
import Derived.OpenShut
import Derived.ProofKit
import Derived.FnData
import Derived.LaidMore
import Derived.WalkKit
namespace Go.Proofs.YtmlcififmjpcpaaDoor
open Go.ChangeShapes Go.WideShapes Go.ChangeAt Go.WideElems Go.RowKit

/-- The instructions' names. -/
def insNms : List (List UInt8) := [[110, 111, 112], [105, 110, 116], [115, 116, 114], [116, 114, 117, 101], [102, 97, 108, 115, 101], [110, 117, 108, 108], [108, 111, 97, 100], [115, 116, 111, 114, 101], [112, 111, 112], [100, 117, 112], [97, 100, 100], [115, 117, 98], [109, 117, 108], [100, 105, 118], [114, 101, 109], [110, 101, 103], [110, 111, 116], [108, 116], [108, 101], [101, 113, 105], [101, 113, 98], [101, 113, 114], [106, 117, 109, 112], [106, 117, 109, 112, 116], [106, 117, 109, 112, 102], [110, 101, 119], [103, 101, 116, 102], [112, 117, 116, 102], [97, 114, 114], [97, 108, 111, 97, 100], [97, 115, 116, 111, 114, 101], [97, 108, 101, 110], [99, 97, 108, 108], [114, 101, 116], [114, 101, 116, 118], [116, 104, 114, 111, 119], [101, 110, 116, 101, 114], [101, 120, 105, 116], [99, 97, 115, 116], [105, 115], [112, 114, 105, 110, 116], [114, 101, 97, 100], [106, 111, 105, 110], [115, 108, 101, 110], [115, 112, 97, 119, 110], [111, 108, 100]]
/-- What each one's A is. -/
def insKinds : List Int := [0, 1, 2, 0, 0, 0, 6, 6, 0, 0, 0, 0, 0, 0, 0, 0, 0, 0, 0, 0, 0, 0, 7, 7, 7, 3, 4, 4, 3, 0, 0, 0, 5, 0, 0, 0, 0, 0, 3, 3, 0, 0, 0, 0, 0, 4]
def insCellsL : List (List UInt8) → List Int → List Value
  | n :: ns, k :: ks => .string ⟨n.toArray⟩ :: .int .i64 k :: insCellsL ns ks
  | _, _ => []
def insCells : List Value := insCellsL insNms insKinds


/-- The table lies as its initialiser lays it. -/
def FormsAt (w : World) : Prop := w.rangeAt 0 0 insCells

theorem insCellsL_at : ∀ (ns : List (List UInt8)) (ks : List Int) (i : Nat), i < ns.length → i < ks.length →
    (insCellsL ns ks)[2 * i]? = some (.string ⟨(ns.getD i []).toArray⟩) ∧ (insCellsL ns ks)[2 * i + 1]? = some (.int .i64 (ks.getD i 0)) := by
  intro ns
  induction ns with
  | nil => intro ks i h; simp at h
  | cons n ns ih =>
    intro ks i h h'
    cases ks with
    | nil => simp at h'
    | cons k ks =>
      cases i with
      | zero => exact ⟨rfl, rfl⟩
      | succ i =>
        obtain ⟨e1, e2⟩ := ih ks i (by simpa using h) (by simpa using h')
        constructor
        · rw [show 2 * (i + 1) = (2 * i + 1) + 1 by omega]
          simp only [insCellsL, List.getElem?_cons_succ, e1]
          simp
        · rw [show 2 * (i + 1) + 1 = (2 * i + 1) + 1 + 1 by omega]
          simp only [insCellsL, List.getElem?_cons_succ, e2]
          simp

theorem FormsAt.name {w : World} (h : FormsAt w) {i : Nat} (hi : i < 46) : w.cell? ⟨0, i * 2, none⟩ = some (.string ⟨(insNms.getD i []).toArray⟩) := by
  have := h (2 * i) _ (insCellsL_at insNms insKinds i hi hi).1
  rwa [Nat.zero_add, Nat.mul_comm] at this

theorem FormsAt.kind {w : World} (h : FormsAt w) {i : Nat} (hi : i < 46) : w.cell? ⟨0, i * 2 + 1, none⟩ = some (.int .i64 (insKinds.getD i 0)) := by
  have := h (2 * i + 1) _ (insCellsL_at insNms insKinds i hi hi).2
  rwa [Nat.zero_add, Nat.mul_comm] at this

theorem FormsAt.mono {w w' : World} (h : FormsAt w) {n : Nat} (hn : 0 < n) (hb : Below n w w') : FormsAt w' := by
  intro j v hv
  exact (hb.cell (p := ⟨0, 0 + j, none⟩) hn).trans (h j v hv)

theorem gForms : Tryd.prog.globalNamed "hornbook/ins.forms" = some 0 := by kernel_rfl
theorem tForms : (Tryd.prog.globals[0]?).map (·.type) = some 51 := by kernel_rfl
theorem cForm : Tryd.prog.cellsOf 50 = 2 := by kernel_rfl
theorem cForms : Tryd.prog.cellsOf 51 = 92 := by kernel_rfl
theorem cInt' : Tryd.prog.cellsOf 3 = 1 := by kernel_rfl
theorem cStr' : Tryd.prog.cellsOf 9 = 1 := by kernel_rfl

/-- The datum of the card, out of the two lists. -/
def insData {H : Type} : List (List UInt8) → List Int → List (DataW H)
  | n :: ns, k :: ks => .agg [.lit (.string n), .lit (.int .i64 k)] :: insData ns ks
  | _, _ => []
theorem laid_insData {H : Type} : Rows.laid_hornbook_ins_forms (H := H) = .agg (insData insNms insKinds) := rfl

theorem form_of_trod {H : Type} {enc : TypeId × Value → H} {w : World} {base : Nat} {sp : Nat → Bool} {held : Bool} {fuel : Nat} {cs : List Value} {x : DataW H × List MemPlace} {n : List UInt8} {k : Int}
    (h : DataW.trod enc Tryd.prog w base sp held fuel 50 cs = some x) (hx : x.1 = .agg [.lit (.string n), .lit (.int .i64 k)]) : cs = [.string ⟨n.toArray⟩, .int .i64 k] := by
  obtain ⟨xs, m, rfl, rfl, hl, hn, hf⟩ := DataW.trod_struct Tryd.underlying50 h
  rw [cForm] at hl
  match cs, hl with
  | [c0, c1], _ =>
    have h0 := hf 0 _ rfl
    have h1 := hf 1 _ rfl
    match xs, hn, hx, h0, h1 with
    | [x0, x1], _, hx, h0, h1 =>
      simp only [List.map_cons, List.map_nil, DataW.agg.injEq, List.cons.injEq, and_true] at hx
      obtain ⟨hx0, hx1⟩ := hx
      obtain ⟨s, e1, e2, _⟩ := DataW.trod_string Tryd.underlying9 (show DataW.trod _ Tryd.prog w _ _ held m 9 (([c0, c1].drop 0).take (Tryd.prog.cellsOf 9)) = some x0 from h0)
      obtain ⟨z, e3, e4, _⟩ := DataW.trod_int Tryd.underlying3 (show DataW.trod _ Tryd.prog w _ _ held m 3 (([c0, c1].drop 1).take (Tryd.prog.cellsOf 3)) = some x1 from h1)
      simp only [cStr', cInt', List.drop_zero, List.take_succ_cons, List.take_zero, List.drop_succ_cons, List.cons.injEq, and_true] at e1 e3
      subst e1 e3
      rw [e2] at hx0
      rw [e4] at hx1
      simp only [DataW.lit.injEq, Lit.string.injEq, Lit.int.injEq, true_and] at hx0 hx1
      subst hx0 hx1
      rfl

theorem cells_of_forms {H : Type} {enc : TypeId × Value → H} {w : World} {base : Nat} {sp : Nat → Bool} {held : Bool} {fuel : Nat} :
    ∀ (ns : List (List UInt8)) (ks : List Int) (cs : List Value) (xs : List (DataW H × List MemPlace)), ns.length = ks.length → cs.length = 2 * ns.length → xs.map (·.1) = insData ns ks →
    (∀ i, i < ns.length → DataW.trod enc Tryd.prog w base sp held fuel 50 ((cs.drop (i * 2)).take 2) = xs[i]?) → cs = insCellsL ns ks := by
  intro ns
  induction ns with
  | nil =>
    intro ks cs xs _ hc _ _
    obtain rfl : cs = [] := List.eq_nil_of_length_eq_zero (by simpa using hc)
    cases ks <;> rfl
  | cons n ns ih =>
    intro ks cs xs hk hc hx hf
    match ks, hk with
    | k :: ks, hk =>
    match cs, hc with
    | c0 :: c1 :: cs, hc =>
    match xs, hx with
    | x :: xs, hx =>
      simp only [List.map_cons, insData, List.cons.injEq] at hx
      have h0 := hf 0 (by simp)
      have e0 := form_of_trod h0 hx.1
      have hr := ih ks cs xs (by simpa using hk) (by simp at hc; omega) hx.2 (fun i hi => by
        have := hf (i + 1) (by simp; omega)
        rw [show (i + 1) * 2 = i * 2 + 1 + 1 by omega] at this
        simpa using this)
      simp only [Nat.zero_mul, List.drop_zero, List.take_succ_cons, List.take_zero, List.cons.injEq, and_true] at e0
      obtain ⟨rfl, rfl⟩ := e0
      rw [hr]
      rfl

/-- What the card's condition gives the walks. -/
theorem forms_of_laid {W : World} (h : laidMetH Tryd.prog [("hornbook/ins.forms", Rows.laid_hornbook_ins_forms)] W) : FormsAt W := by
  rw [MakeChecks.laidMetH_plain _ _ _ (by kernel_rfl)] at h
  obtain ⟨ps, ⟨g0, t0, cs0, f0, p0, q0, hg0, ht0, hv0, hd0, _, _⟩, _, _⟩ := h
  obtain rfl := Option.some.inj (gForms.symm.trans hg0)
  obtain rfl := Option.some.inj (tForms.symm.trans ht0)
  obtain ⟨xs, m1, rfl, hx1, hlen, hn3, hel⟩ := DataW.trod_array Tryd.underlying51 hd0
  rw [cForms] at hlen
  simp only [Prod.mk.injEq] at hx1
  have hx2 := hx1.1
  rw [laid_insData] at hx2
  have hcs : cs0.toList = insCells := cells_of_forms insNms insKinds cs0.toList xs rfl hlen (DataW.agg.inj hx2).symm (fun i hi => by
    have := hel i hi
    rwa [cForm] at this)
  intro j v hv
  have := World.var?_cell hg0 hv0 (0 + j)
  rw [this, Nat.zero_add, ← Array.getElem?_toList, hcs, hv]

end Go.Proofs.YtmlcififmjpcpaaDoor

