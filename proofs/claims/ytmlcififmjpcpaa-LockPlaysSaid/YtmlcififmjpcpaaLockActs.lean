/-
  The laws' calls on locks, as they come in; and plain laws on lists of holds.
-/
import Derived.Test.YtmlcififmjpcpaaLockG
import Derived.Test.YtmlcififmjpcpaaOpens
namespace Go.Proofs.Ytmlcififmjpcpaa
open Go.RowKit

structure ActD where
  kind : Int
  a : Int
  who : Int
  now : List Int

def KAct : World → ActD → List Value → Prop := fun w x cs => Kpair (Kint .i64) (Kpair (Kint .i64) (Kpair (Kint .i64) (Kslice (Kint .i64) 1))) w (x.kind, x.a, x.who, x.now) cs

def goodAct (x : ActD) : Prop := (Lit.int .i64 x.kind).wf = true ∧ (Lit.int .i64 x.a).wf = true ∧ (Lit.int .i64 x.who).wf = true ∧ x.now.length * 8 ≤ 140737488351232 ∧ ∀ n ∈ x.now, (Lit.int .i64 n).wf = true

theorem bytes_int64 : Try.prog.bytesOf 2 = 8 := by kernel_rfl
theorem bytes_act : Try.prog.bytesOf 27 = 48 := by kernel_rfl

theorem opens_act : Opens Try.prog KAct 4 27 goodAct := by
  have hi := Opens.int (P := Try.prog) Try.underlying3 (by kernel_rfl)
  have hl := Opens.int (P := Try.prog) Try.underlying2 (by kernel_rfl)
  have hs := Opens.slice hl Try.underlying25 (by kernel_rfl)
  rw [bytes_int64] at hs
  exact Opens.struct (f := fun x : ActD => (x.kind, x.a, x.who, x.now)) (g := fun y => ⟨y.1, y.2.1, y.2.2.1, y.2.2.2⟩) (hu := Try.underlying27) (OpensFields.cons hi rfl (OpensFields.cons hl rfl (OpensFields.cons hi rfl (OpensFields.one hs rfl)))) (by kernel_rfl) (fun _ => rfl)

theorem opens_acts : Opens Try.prog (Kslice KAct 4) 1 22 (fun xs => xs.length * 48 ≤ 140737488351232 ∧ ∀ x ∈ xs, goodAct x) := by
  have h := Opens.slice opens_act Try.underlying22 (by kernel_rfl)
  rw [bytes_act] at h
  exact h
theorem open_acts {H : Type} {enc : TypeId × Value → H} {w : World} {m : _} {base b2 : Nat} {spare : Nat → Bool} {held : Bool} {v : Value} {d : DataW H} {ps : List MemPlace}
    (hv : Value.okWide Try.prog w m b2 22 v) (ht : DataW.Trod enc Try.prog w base spare held 22 v d ps) (hw : ∀ n ∈ d.weights Try.prog 22, n ≤ reachBytes) : ∃ xs, RSlice KAct 4 w v xs ∧ (xs.length * 48 ≤ 140737488351232 ∧ ∀ x ∈ xs, goodAct x) :=
  opens_acts.argSlice Try.underlying22 hv ht hw

theorem add_field (ad : Addr) (m j : Nat) (hj : 0 < j) : ad.add (m + j) = ⟨(ad.add m).block, (ad.add m).off + j, none⟩ := by
  unfold Addr.add
  by_cases hm : m = 0
  · subst hm; simp; intro h; omega
  · rw [if_neg hm, if_neg (by omega)]; simp; omega

theorem cell_at_below {w w1 : World} (h : Below w.heap.size w w1) {a : Addr} {v : Value} (hc : w.cell? a = some v) : w1.cell? a = some v := (h.cell (World.block_lt_of_cell? w a hc)).trans hc

/-- One act's cells, in a later world. -/
theorem act_at {w w1 : World} (hb : Below w.heap.size w w1) {v : Value} {xs : List ActD} (h : RSlice KAct 4 w v xs) {k : Nat} (hk : k < xs.length) {kind a who : Int} {now : List Int} (hx : xs[k]? = some ⟨kind, a, who, now⟩) : ∃ A cap nv, v = .slice (some A) xs.length cap ∧
    w1.cell? (A.add (k * 4)) = some (.int .i64 kind) ∧ w1.cell? ⟨(A.add (k * 4)).block, (A.add (k * 4)).off + 1, none⟩ = some (.int .i64 a) ∧ w1.cell? ⟨(A.add (k * 4)).block, (A.add (k * 4)).off + 2, none⟩ = some (.int .i64 who) ∧
    w1.cell? ⟨(A.add (k * 4)).block, (A.add (k * 4)).off + 3, none⟩ = some nv ∧ RSlice (Kint .i64) 1 w nv now := by
  rcases h with ⟨rfl, rfl⟩ | ⟨A, cap, rfl, hl, hm, hx'⟩
  · simp at hk
  · obtain ⟨cs, hcl, hK, hc⟩ := hx' k _ hx
    obtain ⟨c0, r0, rfl, rfl, c1, r1, rfl, rfl, c2, r2, rfl, rfl, nv, rfl, hr⟩ := hK
    refine ⟨A, cap, nv, rfl, ?_, ?_, ?_, ?_, hr⟩
    · exact cell_at_below hb (by have := hc 0 _ rfl; rwa [Nat.add_zero] at this)
    · exact cell_at_below hb (by rw [← add_field _ _ 1 (by omega)]; exact hc 1 _ rfl)
    · exact cell_at_below hb (by rw [← add_field _ _ 2 (by omega)]; exact hc 2 _ rfl)
    · exact cell_at_below hb (by rw [← add_field _ _ 3 (by omega)]; exact hc 3 _ rfl)
theorem acts_slice {w : World} {v : Value} {xs : List ActD} (h : RSlice KAct 4 w v xs) : ∃ A cap, v = .slice A xs.length cap := by
  rcases h with ⟨rfl, rfl⟩ | ⟨A, cap, rfl, _⟩
  · exact ⟨none, 0, rfl⟩
  · exact ⟨_, _, rfl⟩
end Go.Proofs.Ytmlcififmjpcpaa
