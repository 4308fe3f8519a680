/-
  The law on code as bytes: its walk.
-/
import Derived.Test.YtmlcififmjpcpaaDoorInsP
namespace Go.Proofs.YtmlcififmjpcpaaDoor
open Go.RowKit
set_option linter.unusedVariables false
set_option linter.unusedSimpArgs false

attribute [local go_sem] Oper.semAt_some

def KByte : World → UInt8 → List Value → Prop := fun w x cs => Kint .u8 w (x.toNat : Int) cs
theorem bytes_u8 : Tryd.prog.bytesOf 5 = 1 := by kernel_rfl
theorem run_same_str (e1 : List UInt8) : ((⟨e1.toArray⟩ : ByteArray).toList == (⟨e1.toArray⟩ : ByteArray).toList) = true := beq_self_eq_true _

set_option maxRecDepth 100000 in
set_option maxHeartbeats 4000000 in
theorem insBytes_walk (W : World) (v0 v1 : Value) (bs : List UInt8) (code : List InsD) (at_ : Int) (hF : FormsAt W) (hs : BytesIn W.heap.size W v0 bs) (hc : CodeIn W.heap.size W v1 code) (hl : bs.length ≤ 140737488351232) (hg : ∀ x ∈ code, goodIns x) :
    Calls Tryd.prog 5 #[v0, v1, .int .i64 at_] W fun e W' => e = .returned (.bool true) ∧ Below W.heap.size W W' := by
  have hz := hF.pos
  obtain ⟨ao, cap, rfl, hcap, _⟩ := SliceIn.form hs
  obtain ⟨ao2, cap2, rfl, hcap2, _⟩ := SliceIn.form hc
  have k7 := Lib.hid (fun w (h : Below W.heap.size W w) => known4_any w (hF.mono hz h) (Nat.lt_of_lt_of_le hz h.size))
  by_cases hl6 : code.length > 600
  · have hb : decide (600 < (code.length : Int)) = true := decide_eq_true (by omega)
    have hb0 := Lib.hid (Below.refl W.heap.size W)
    clear hF hs hc hg
    go_enter Tryd.func5, Tryd.ntmps5
    go_wp2_with fail
    refine (k7.out _ hb0.out).mono ?_
    rintro e w2 ⟨rfl, hb2⟩
    have hb2' := Lib.hid hb2
    clear hb2
    go_wp2
    go_ret
    exact ⟨rfl, hb2'.out⟩
  · have hb : decide (600 < (code.length : Int)) = false := decide_eq_false (by omega)
    have HF := Lib.hid hF
    have HS := Lib.hid hs
    have HC := Lib.hid hc
    have HG := Lib.hid hg
    have c0 := Lib.hid (lent_any W _ bs W.heap.size hs (by omega))
    obtain ⟨⟨rb, re⟩, hP⟩ : ∃ P, P = putL bs code := ⟨_, rfl⟩
    obtain ⟨⟨gc, gk, ge⟩, hG⟩ : ∃ G, G = getCode bs at_ := ⟨_, rfl⟩
    have HP := Lib.hid hP
    have HQ := Lib.hid hG
    clear hF hs hc hg hP hG
    go_enter Tryd.func5, Tryd.ntmps5
    go_wp2_with fail
    refine c0.out.mono ?_
    rintro e w1 ⟨own, rfl, ho, b1⟩
    have B1 := Lib.hid b1
    have O1 := Lib.hid ho
    have p1 := put_any w1 own (.slice ao2 code.length cap2) bs code (HF.out.mono hz b1) (Nat.lt_of_lt_of_le hz b1.size) ho ((SliceIn.later HC.out (Nat.le_refl _) b1).up b1.size) (by omega) HG.out
    rw [← HP.out] at p1
    have P1 := Lib.hid p1
    clear p1 b1 ho
    go_wp2_with fail
    refine P1.out.mono ?_
    rintro e w2 ⟨⟨x, rfl, hx⟩, b2⟩
    have B2 := Lib.hid (B1.out.trans (b2.mono B1.out.size))
    have X2 := Lib.hid hx
    have O2 := Lib.hid ((SliceIn.later O1.out (Nat.le_refl _) b2).up b2.size)
    have p2 := rputc_any w2 (.slice ao bs.length cap) (.slice ao2 code.length cap2) bs code ((SliceIn.later HS.out (Nat.le_refl _) B2.out).up B2.out.size) ((SliceIn.later HC.out (Nat.le_refl _) B2.out).up B2.out.size) (by omega) HG.out
    rw [← HP.out] at p2
    have P2 := Lib.hid p2
    clear p2 b2 hx
    go_wp2_with fail
    refine P2.out.mono ?_
    rintro e w3 ⟨⟨y, rfl, hy⟩, b3⟩
    have B3 := Lib.hid (B2.out.trans (b3.mono B2.out.size))
    have Y3 := Lib.hid hy
    have X3 := Lib.hid ((SliceIn.later X2.out (Nat.le_refl _) b3).up b3.size)
    have O3 := Lib.hid ((SliceIn.later O2.out (Nat.le_refl _) b3).up b3.size)
    have p3 := get_any w3 own bs at_ w3.heap.size (Nat.le_refl _) (HF.out.mono hz B3.out) O3.out (by omega)
    rw [← HQ.out] at p3
    have P3 := Lib.hid p3
    clear p3 b3 hy
    go_wp2_with fail
    refine P3.out.mono ?_
    rintro e w4 ⟨⟨c, rfl, hcc⟩, b4⟩
    have B4 := Lib.hid (B3.out.trans (b4.mono B3.out.size))
    have Y4 := Lib.hid ((SliceIn.later Y3.out (Nat.le_refl _) b4).up b4.size)
    have X4 := Lib.hid ((SliceIn.later X3.out (Nat.le_refl _) b4).up b4.size)
    have O4 := Lib.hid ((SliceIn.later O3.out (Nat.le_refl _) b4).up b4.size)
    have C4 := Lib.hid hcc
    have p4 := rgetc_any w4 (.slice ao bs.length cap) bs at_ w4.heap.size (Nat.le_refl _) ((SliceIn.later HS.out (Nat.le_refl _) B4.out).up B4.out.size) (by omega)
    rw [← HQ.out] at p4
    have P4 := Lib.hid p4
    clear p4 b4 hcc
    go_wp2_with fail
    refine P4.out.mono ?_
    rintro e w5 ⟨⟨d, rfl, hd⟩, b5⟩
    have B5 := Lib.hid (B4.out.trans (b5.mono B4.out.size))
    have Y5 := Lib.hid ((SliceIn.later Y4.out (Nat.le_refl _) b5).up b5.size)
    have X5 := Lib.hid ((SliceIn.later X4.out (Nat.le_refl _) b5).up b5.size)
    have O5 := Lib.hid ((SliceIn.later O4.out (Nat.le_refl _) b5).up b5.size)
    have C5 := Lib.hid ((SliceIn.later C4.out (Nat.le_refl _) b5).up b5.size)
    have D5 := Lib.hid hd
    clear b5 hd P1 P2 P3 P4 O1 O2 O3 O4 X2 X3 X4 Y3 Y4 C4 B1 B2 B3 B4
    dsimp only at *
    have q1 := run_string_of X5.out
    have q2 := run_string_of Y5.out
    have q3 := run_same_str rb
    have q4 : (re == re) = true := beq_self_eq_true _
    have q5 : (re != re) = false := by simp
    have q6 : (gk == gk) = true := beq_self_eq_true _
    have q7 : (gk != gk) = false := by simp
    have q8 : (ge == ge) = true := beq_self_eq_true _
    have q9 : (ge != ge) = false := by simp
    have hsame := same_any w5 c d gc gc C5.out D5.out (by have := getCode_len bs at_; rw [← HQ.out] at this; exact this)
    rw [decide_eq_true rfl] at hsame
    have HSame := Lib.hid hsame
    clear hsame
    go_wp2_with fail
    refine HSame.out.mono ?_
    rintro e w6 ⟨rfl, b6⟩
    have B6 := Lib.hid (B5.out.trans (b6.mono B5.out.size))
    have O6 := Lib.hid ((SliceIn.later O5.out (Nat.le_refl _) b6).up b6.size)
    have X6 := Lib.hid ((SliceIn.later X5.out (Nat.le_refl _) b6).up b6.size)
    have hkept := kept_any w6 own (.slice ao bs.length cap) bs O6.out ((SliceIn.later HS.out (Nat.le_refl _) B6.out).up B6.out.size)
    have HKept := Lib.hid hkept
    clear hkept b6 O5 C5 D5 Y5 X5 q1 q2
    go_wp2_with fail
    refine HKept.out.mono ?_
    rintro e w7 ⟨rfl, b7⟩
    have B7 := Lib.hid (B6.out.trans (b7.mono B6.out.size))
    have X7 := Lib.hid ((SliceIn.later X6.out (Nat.le_refl _) b7).up b7.size)
    clear b7 X6 O6 B5 B6
    by_cases hre : re = 0
    · have r1 : (re == 0) = true := by simp [hre]
      have r2 : (re != 0) = false := by simp [hre]
      obtain ⟨ao3, cap3, rfl, hcap3, _⟩ := SliceIn.form X7.out
      have hback := code_back bs rb code HG.out (by rw [← HP.out, hre])
      have hrl := putL_len bs code HG.out
      rw [← HP.out] at hrl
      have p7 := get_any w7 _ rb (bs.length : Int) w7.heap.size (Nat.le_refl _) (HF.out.mono hz B7.out) X7.out (by dsimp only at hrl; omega)
      have P7 := Lib.hid p7
      have HB := Lib.hid hback
      clear p7 hback hrl hre
      rcases HB.out with hb2 | hb2
      · rw [hb2] at P7
        dsimp only at P7
        have hb2' := Lib.hid hb2
        clear hb2
        have rl : ((rb.length : Int) == (rb.length : Int)) = true := beq_self_eq_true _
        go_wp2_with fail
        refine P7.out.mono ?_
        rintro e w8 ⟨⟨z, rfl, hzz⟩, b8⟩
        have B8 := Lib.hid (B7.out.trans (b8.mono B7.out.size))
        have hs2 := same_any w8 z (.slice ao2 code.length cap2) code code hzz ((SliceIn.later HC.out (Nat.le_refl _) B8.out).up B8.out.size) (by omega)
        rw [decide_eq_true rfl] at hs2
        have HS2 := Lib.hid hs2
        clear hs2 hzz b8
        go_wp2_with fail
        refine HS2.out.mono ?_
        rintro e w9 ⟨rfl, b9⟩
        have B9 := Lib.hid (B8.out.trans (b9.mono B8.out.size))
        clear b9
        go_wp2_with fail
        refine (k7.out _ B9.out).mono ?_
        rintro e w10 ⟨rfl, b10⟩
        have B10 := Lib.hid (B9.out.trans (b10.mono B9.out.size))
        clear b10
        go_wp2
        go_ret
        exact ⟨rfl, B10.out⟩
      · rw [hb2] at P7
        dsimp only at P7
        have hb2' := Lib.hid hb2
        clear hb2
        go_wp2_with fail
        refine P7.out.mono ?_
        rintro e w8 ⟨⟨z, rfl, hzz⟩, b8⟩
        have B8 := Lib.hid (B7.out.trans (b8.mono B7.out.size))
        clear hzz b8
        go_wp2_with fail
        refine (k7.out _ B8.out).mono ?_
        rintro e w10 ⟨rfl, b10⟩
        have B10 := Lib.hid (B8.out.trans (b10.mono B8.out.size))
        clear b10
        go_wp2
        go_ret
        exact ⟨rfl, B10.out⟩
    · have r1 : (re == 0) = false := beq_eq_false_iff_ne.2 hre
      have r2 : (re != 0) = true := by simp [bne, r1]
      clear hre
      go_wp2_with fail
      refine (k7.out _ B7.out).mono ?_
      rintro e w8 ⟨rfl, b8⟩
      have B8 := Lib.hid (B7.out.trans (b8.mono B7.out.size))
      clear b8
      go_wp2
      go_ret
      exact ⟨rfl, B8.out⟩

/-- Bytes that came in. -/
theorem opens_byte : Opens Tryd.prog (fun w (x : Int) cs => Kint .u8 w x cs) 1 5 (fun x => (Lit.int .u8 x).wf = true) := Opens.int (P := Tryd.prog) Tryd.underlying5 (by kernel_rfl)
theorem open_bytes {H : Type} {enc : TypeId × Value → H} {w : World} {m : _} {base b2 : Nat} {spare : Nat → Bool} {held : Bool} {v : Value} {d : DataW H} {ps : List MemPlace}
    (hv : Value.okWide Tryd.prog w m b2 33 v) (ht : DataW.Trod enc Tryd.prog w base spare held 33 v d ps) (hw : ∀ n ∈ d.weights Tryd.prog 33, n ≤ reachBytes) :
    ∃ xs : List Int, RSlice (fun w (x : Int) cs => Kint .u8 w x cs) 1 w v xs ∧ (xs.length * 1 ≤ 140737488351232 ∧ ∀ x ∈ xs, (Lit.int .u8 x).wf = true) := by
  have h := Opens.slice opens_byte Tryd.underlying33 (by kernel_rfl)
  rw [bytes_u8] at h
  exact h.argSlice Tryd.underlying33 hv ht hw
theorem bytes_in {w : World} {v : Value} {xs : List Int} (h : RSlice (fun w (x : Int) cs => Kint .u8 w x cs) 1 w v xs) (hw : ∀ x ∈ xs, (Lit.int .u8 x).wf = true) :
    BytesIn w.heap.size w v (xs.map fun x => UInt8.ofNat x.toNat) := by
  have h1 := SliceIn.of_read h (fun x => [.int .u8 x]) (fun _ => rfl) (fun x cs hk => hk)
  have e : bcells (xs.map fun x => UInt8.ofNat x.toNat) = xs.flatMap fun x => [Value.int .u8 x] := by
    clear h h1
    induction xs with
    | nil => rfl
    | cons x r ih =>
      have hx := hw x (by simp)
      have h2 : 0 ≤ x ∧ x ≤ 255 := by simpa [Lit.wf, IntKind.min, IntKind.max, IntKind.bits, IntKind.signed] using hx
      rw [List.map_cons, List.flatMap_cons, ← ih (fun y hy => hw y (List.mem_cons_of_mem _ hy))]
      simp only [bcells, List.map_cons, List.singleton_append]
      congr 2
      rw [ofNat_toNat (by omega)]
      omega
  unfold BytesIn
  rw [e, List.length_map]
  exact h1

theorem insBytes_any (v0 : Value) (xs : List Int) (v1 : Value) (code : List InsD) (at_ : Int) (W : World)
    (h0' : RSlice (fun w (x : Int) cs => Kint .u8 w x cs) 1 W v0 xs ∧ (xs.length * 1 ≤ 140737488351232 ∧ ∀ x ∈ xs, (Lit.int .u8 x).wf = true))
    (h1' : RSlice KIns 2 W v1 code ∧ (code.length * 16 ≤ 140737488351232 ∧ ∀ x ∈ code, (Lit.int .i64 x.op).wf = true ∧ (Lit.int .i64 x.a).wf = true)) (w2 : (Lit.int .i64 at_).wf = true) (hF : FormsAt W) :
    Calls Tryd.prog 5 #[v0, v1, .int .i64 at_] W fun e W' => e = .returned (.bool true) ∧ Below W.heap.size W W' := by
  refine insBytes_walk W v0 v1 _ code at_ hF (bytes_in h0'.1 h0'.2.2) (code_in h1'.1) ?_ ?_
  · rw [List.length_map]
    have := h0'.2.1
    omega
  · intro x hx
    obtain ⟨h2, h3⟩ := h1'.2.2 x hx
    have e : ∀ z : Int, (Lit.int .i64 z).wf = true → -9223372036854775808 ≤ z ∧ z ≤ 9223372036854775807 := by
      intro z hz
      simpa [Lit.wf, IntKind.min, IntKind.max, IntKind.bits, IntKind.signed] using hz
    exact ⟨e _ h2, e _ h3⟩
end Go.Proofs.YtmlcififmjpcpaaDoor
