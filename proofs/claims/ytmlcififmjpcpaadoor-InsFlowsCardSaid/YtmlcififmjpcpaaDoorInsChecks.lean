/-
  The law on whether code can be: its walk.
-/
import Derived.Test.YtmlcififmjpcpaaDoorInsG
namespace Go.Proofs.YtmlcififmjpcpaaDoor
open Go.RowKit
set_option linter.unusedVariables false
set_option linter.unusedSimpArgs false

attribute [local go_sem] Oper.semAt_some

def KIns : World → InsD → List Value → Prop := fun w x cs => Kpair (Kint .i64) (Kint .i64) w (x.op, x.a) cs
def KConst : World → ConstD → List Value → Prop := fun w x cs => Kpair (Kint .i64) (Kpair (Kint .i64) (Kpair Kstring (Kpair Kstring Kstring))) w (x.kind, x.n, x.s, x.t, x.u) cs

theorem bytes_ins : Tryd.prog.bytesOf 55 = 16 := by kernel_rfl
theorem opens_ins : Opens Tryd.prog KIns 2 55 (fun x => (Lit.int .i64 x.op).wf = true ∧ (Lit.int .i64 x.a).wf = true) := by
  have hi := Opens.int (P := Tryd.prog) Tryd.underlying3 (by kernel_rfl)
  exact Opens.struct (f := fun x : InsD => (x.op, x.a)) (g := fun y => ⟨y.1, y.2⟩) (hu := Tryd.underlying55) (OpensFields.cons hi rfl (OpensFields.one hi rfl)) (by kernel_rfl) (fun _ => rfl)
theorem opens_code : Opens Tryd.prog (Kslice KIns 2) 1 27 (fun xs => xs.length * 16 ≤ 140737488351232 ∧ ∀ x ∈ xs, (Lit.int .i64 x.op).wf = true ∧ (Lit.int .i64 x.a).wf = true) := by
  have h := Opens.slice opens_ins Tryd.underlying27 (by kernel_rfl)
  rw [bytes_ins] at h
  exact h
theorem open_code {H : Type} {enc : TypeId × Value → H} {w : World} {m : _} {base b2 : Nat} {spare : Nat → Bool} {held : Bool} {v : Value} {d : DataW H} {ps : List MemPlace}
    (hv : Value.okWide Tryd.prog w m b2 27 v) (ht : DataW.Trod enc Tryd.prog w base spare held 27 v d ps) (hw : ∀ n ∈ d.weights Tryd.prog 27, n ≤ reachBytes) :
    ∃ xs, RSlice KIns 2 w v xs ∧ (xs.length * 16 ≤ 140737488351232 ∧ ∀ x ∈ xs, (Lit.int .i64 x.op).wf = true ∧ (Lit.int .i64 x.a).wf = true) :=
  opens_code.argSlice Tryd.underlying27 hv ht hw
theorem code_in {w : World} {v : Value} {xs : List InsD} (h : RSlice KIns 2 w v xs) : CodeIn w.heap.size w v xs :=
  SliceIn.of_read h icells icells_len (fun x cs hk => by obtain ⟨c0, c1, rfl, h0, h1⟩ := hk; cases h0; cases h1; rfl)

theorem bytes_const : Tryd.prog.bytesOf 60 = 64 := by kernel_rfl
theorem opens_const : Opens Tryd.prog KConst 5 60 (fun x => (Lit.int .i64 x.kind).wf = true ∧ (Lit.int .i64 x.n).wf = true ∧ x.s.size ≤ 140737488351232 ∧ x.t.size ≤ 140737488351232 ∧ x.u.size ≤ 140737488351232) := by
  have hi := Opens.int (P := Tryd.prog) Tryd.underlying3 (by kernel_rfl)
  have hl := Opens.int (P := Tryd.prog) Tryd.underlying2 (by kernel_rfl)
  have hs := Opens.string (P := Tryd.prog) Tryd.underlying9 (by kernel_rfl)
  exact Opens.struct (f := fun x : ConstD => (x.kind, x.n, x.s, x.t, x.u)) (g := fun y => ⟨y.1, y.2.1, y.2.2.1, y.2.2.2.1, y.2.2.2.2⟩) (hu := Tryd.underlying60)
    (OpensFields.cons hi rfl (OpensFields.cons hl rfl (OpensFields.cons hs rfl (OpensFields.cons hs rfl (OpensFields.one hs rfl))))) (by kernel_rfl) (fun _ => rfl)
theorem open_consts {H : Type} {enc : TypeId × Value → H} {w : World} {m : _} {base b2 : Nat} {spare : Nat → Bool} {held : Bool} {v : Value} {d : DataW H} {ps : List MemPlace}
    (hv : Value.okWide Tryd.prog w m b2 28 v) (ht : DataW.Trod enc Tryd.prog w base spare held 28 v d ps) (hw : ∀ n ∈ d.weights Tryd.prog 28, n ≤ reachBytes) :
    ∃ xs, RSlice KConst 5 w v xs ∧ xs.length * 64 ≤ 140737488351232 := by
  have h2 := Opens.slice opens_const Tryd.underlying28 (by kernel_rfl)
  rw [bytes_const] at h2
  obtain ⟨xs, h3, h4⟩ := h2.argSlice Tryd.underlying28 hv ht hw
  exact ⟨xs, h3, h4.1⟩
theorem consts_in {w : World} {v : Value} {xs : List ConstD} (h : RSlice KConst 5 w v xs) : ConstsIn w.heap.size w v xs :=
  SliceIn.of_read h ccells ccells_len (fun x cs hk => by
    obtain ⟨c0, r0, rfl, h0, c1, r1, rfl, h1, c2, r2, rfl, h2, c3, c4, rfl, h3, h4⟩ := hk
    cases h0; cases h1; cases h2; cases h3; cases h4; rfl)

set_option maxRecDepth 100000 in
set_option maxHeartbeats 2000000 in
theorem insChecks_any (v0 : Value) (code : List InsD) (v1 : Value) (cs : List ConstD) (locals : Int) (W : World) (h0' : RSlice KIns 2 W v0 code ∧ (code.length * 16 ≤ 140737488351232 ∧ ∀ x ∈ code, (Lit.int .i64 x.op).wf = true ∧ (Lit.int .i64 x.a).wf = true))
    (h1' : RSlice KConst 5 W v1 cs ∧ cs.length * 64 ≤ 140737488351232) (w2 : (Lit.int .i64 locals).wf = true) (hF : FormsAt W) :
    Calls Tryd.prog 4 #[v0, v1, .int .i64 locals] W fun e W' => e = .returned (.bool true) ∧ Below W.heap.size W W' := by
  have hz := hF.pos
  obtain ⟨h0, w0⟩ := h0'
  obtain ⟨h1, w1⟩ := h1'
  have hs := code_in h0
  have hc := consts_in h1
  obtain ⟨ao, cap, rfl, hcap, _⟩ := SliceIn.form hs
  obtain ⟨ao2, cap2, rfl, hcap2, _⟩ := SliceIn.form hc
  have k7 := Lib.hid (fun w (h : Below W.heap.size W w) => known4_any w (hF.mono hz h) (Nat.lt_of_lt_of_le hz h.size))
  clear h0 h1 w0 w1 w2
  by_cases hl : code.length > 600
  · have hb : decide (600 < (code.length : Int)) = true := decide_eq_true (by omega)
    have hb0 := Lib.hid (Below.refl W.heap.size W)
    clear hF hs hc
    go_enter Tryd.func4, Tryd.ntmps4
    go_wp2_with fail
    refine (k7.out _ hb0.out).mono ?_
    rintro e w2 ⟨rfl, hb2⟩
    have hb2' := Lib.hid hb2
    clear hb2
    go_wp2
    go_ret
    exact ⟨rfl, hb2'.out⟩
  · have hb : decide (600 < (code.length : Int)) = false := decide_eq_false (by omega)
    have c1 := check_any W code cs _ _ locals hF hs hc (by omega)
    have c2 := fun w (h : Below W.heap.size W w) => refCheck_any w code cs _ _ locals ((SliceIn.later hs (Nat.le_refl _) h).up h.size) ((SliceIn.later hc (Nat.le_refl _) h).up h.size) (by omega)
    have c1' := Lib.hid c1
    have c2' := Lib.hid c2
    clear hF hs hc c1 c2
    obtain ⟨⟨r1, r2⟩, hR⟩ : ∃ R, R = checkL code cs locals := ⟨_, rfl⟩
    rw [← hR] at c1' c2'
    dsimp only at c1' c2'
    have e1 : (r1 == r1) = true := beq_self_eq_true _
    have e2 : (r2 == r2) = true := beq_self_eq_true _
    clear hR
    go_enter Tryd.func4, Tryd.ntmps4
    go_wp2_with fail
    refine c1'.out.mono ?_
    rintro e w2 ⟨rfl, b2⟩
    have d2 := Lib.hid b2
    clear b2
    go_wp2_with fail
    refine (c2'.out _ d2.out).mono ?_
    rintro e w3 ⟨rfl, b3⟩
    have d3 := Lib.hid (d2.out.trans (b3.mono d2.out.size))
    clear b3
    go_wp2_with fail
    refine (k7.out _ d3.out).mono ?_
    rintro e w4 ⟨rfl, b4⟩
    have d4 := Lib.hid (d3.out.trans (b4.mono d3.out.size))
    clear b4
    go_wp2
    go_ret
    exact ⟨rfl, d4.out⟩
end Go.Proofs.YtmlcififmjpcpaaDoor
