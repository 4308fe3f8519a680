/-
  Part of a proof: BlkP, Blk, BlkM.
-/
import Derived.Test.YtcaigcmbgihhkaaGreatDoorZTwo
import Derived.Test.YtcaigcmbgihhkaaGreatDoorZPsA
import Derived.Test.YtcaigcmbgihhkaaGreatDoorZSmH
import Derived.Test.YtcaigcmbgihhkaaGreatDoorZSmJ
import Derived.Test.YtcaigcmbgihhkaaGreatDoorZSmA
import Derived.Test.YtcaigcmbgihhkaaGreatDoorZBld
import Derived.Test.YtcaigcmbgihhkaaGreatDoorZIt
import Derived.Test.YtcaigcmbgihhkaaGreatDoorZPpA
namespace Go.Proofs.YtcaigcmbgihhkaaGreatDoor
open Go
set_option linter.unusedVariables false
def fillL (f : Bs) (l : List WordD) : Bs := l.flatMap fun x => encW x ++ 32 :: f
theorem fillL_snoc (f : Bs) (l : List WordD) (x : WordD) : fillL f (l ++ [x]) = fillL f l ++ (encW x ++ [32]) ++ f := by simp [fillL]
theorem fillL_cons (f : Bs) (x : WordD) (r : List WordD) : fillL f (x :: r) = encW x ++ 32 :: (f ++ fillL f r) := by simp [fillL]
theorem fillL_len (f : Bs) (hf : f.length ≤ 16) : ∀ (l : List WordD), (∀ x ∈ l, x.text.length ≤ 20000) → (fillL f l).length ≤ l.length * 40100
  | [], _ => by simp [fillL]
  | x :: r, h => by
    have h1 := encW_len x (h x (by simp))
    have h2 := fillL_len f hf r (fun y hy => h y (by simp [hy]))
    rw [fillL_cons, List.length_append, List.length_cons, List.length_append, List.length_cons]
    omega
def Idle (f : Bs) : Prop := ∀ r, skipL (32 :: (f ++ r)) = skipL r
theorem idle_so : Idle [47, 47, 32, 115, 111, 10] := fun r => rfl
theorem idle_ln : Idle [10, 9, 32] := fun r => rfl
theorem idle_no : Idle [] := fun r => rfl
theorem fill_skip (f : Bs) (L : List WordD) (h : ∀ x ∈ L, IsW x) : skipL (fillL f L) = fillL f L := by
  cases L with
  | nil => rfl
  | cons x r =>
    obtain ⟨l, n, _, hw⟩ := h x (by simp)
    have := (word_back hw x.at_ (f ++ fillL f r)).2.1
    rw [fillL_cons]
    exact this
theorem Lx_fill (f : Bs) (hf : Idle f) (S : Nat) : ∀ (L acc : List WordD), (∀ x ∈ L, IsW x) → ∃ L', Lx S (fillL f L) acc = (acc ++ L', 0, 0) ∧ L'.map strip = L.map strip
  | [], acc, _ => ⟨[], by rw [Lx_eq, if_pos (show fillL f [] = [] from rfl), List.append_nil], rfl⟩
  | x :: r, acc, h => by
    obtain ⟨l, n, _, hw⟩ := h x (by simp)
    obtain ⟨h1, h2, h3⟩ := word_back hw x.at_ (f ++ fillL f r)
    have hr : ∀ y ∈ r, IsW y := fun y hy => h y (by simp [hy])
    obtain ⟨L', q1, q2⟩ := Lx_fill f hf S r (acc ++ [⟨x.kind, x.text, x.n, ((S - (encW x ++ 32 :: (f ++ fillL f r)).length : Nat) : Int)⟩]) hr
    refine ⟨⟨x.kind, x.text, x.n, ((S - (encW x ++ 32 :: (f ++ fillL f r)).length : Nat) : Int)⟩ :: L', ?_, by rw [List.map_cons, List.map_cons, q2]; rfl⟩
    rw [fillL_cons, Lx_eq, if_neg (by simp)]
    rw [show wordL (encW x ++ 32 :: (f ++ fillL f r)) = some (x.kind, x.text, x.n, (encW x).length) from h1]
    simp only
    have hd : (encW x ++ 32 :: (f ++ fillL f r)).drop (encW x).length = 32 :: (f ++ fillL f r) := List.drop_left' rfl
    rw [hd, hf, fill_skip f r hr, q1, List.append_assoc]
    rfl
theorem lex_fill (f : Bs) (hf : Idle f) (src : Bs) (hs : (fillL f (lexL src).1).length ≤ 16384) : ∃ L', lexL (fillL f (lexL src).1) = (L', 0, 0) ∧ L'.map strip = (lexL src).1.map strip := by
  have hw := lexL_isW src
  obtain ⟨L', h1, h2⟩ := Lx_fill f hf (fillL f (lexL src).1).length (lexL src).1 [] hw
  exact ⟨L', by rw [lexL_Lx _ hs, fill_skip f _ hw, h1]; rfl, h2⟩
theorem parse_fill (f : Bs) (hf : Idle f) (src : Bs) (X : List WordD) (h : lexL src = (X, 0, 0)) (hs : (fillL f X).length ≤ 16384) :
    (∃ x y, parseL src = .ok x ∧ parseL (fillL f X) = .ok y ∧ y.map bareC = x.map bareC) ∨ ∃ p q why, parseL src = .error (p, why) ∧ parseL (fillL f X) = .error (q, why) := by
  have e : (lexL src).1 = X := by rw [h]
  obtain ⟨L', q1, q2⟩ := lex_fill f hf src (by rw [e]; exact hs)
  rw [e] at q1 q2
  exact parse_alike src (fillL f X) X L' h q1 q2
end Go.Proofs.YtcaigcmbgihhkaaGreatDoor
namespace Go.Proofs.YtcaigcmbgihhkaaGreatDoor
open Go Go.RowKit Go.Shelf
set_option linter.unusedVariables false
set_option linter.unusedSimpArgs false
attribute [local go_sem] Oper.semAt_some
theorem wrow_get (l : List WordD) (j : Nat) (x : WordD) (h : l[j]? = some x) (i : Nat) (u : Value) (hu : (wcells x)[i]? = some u) : (wrow l)[j * 4 + i]? = some u := by
  induction l generalizing j with
  | nil => simp at h
  | cons y r ih =>
    have hl : (wcells y).length = 4 := rfl
    have hi : i < 4 := by have := (List.getElem?_eq_some_iff.1 hu).1; exact this
    rw [wrow, List.flatMap_cons]
    cases j with
    | zero =>
      simp at h
      subst h
      rw [Nat.zero_mul, Nat.zero_add, List.getElem?_append_left (by omega)]
      exact hu
    | succ j =>
      rw [List.getElem?_append_right (by omega), show (j + 1) * 4 + i - (wcells y).length = j * 4 + i by omega]
      exact ih j (by simpa using h)
theorem words_cells {W : World} {base : Nat} {A : Option Addr} {c : Nat} {l : List WordD} (h : W.ownsRow base 36 4 (.slice A l.length c) l.length (wrow l)) :
    l ≠ [] → ∃ g, A = some ⟨g, 0, none⟩ ∧ g < W.heap.size ∧ ∀ k x, l[k]? = some x → ∀ i u, (wcells x)[i]? = some u → W.cell? ⟨g, k * 4 + i, none⟩ = some u := by
  intro hne
  obtain ⟨h1, ⟨e, h0⟩ | ⟨g, cap, cur, e, h2, h3, h4, h5, h6, h7⟩⟩ := h
  · exact absurd (List.eq_nil_of_length_eq_zero h0) hne
  · cases e
    refine ⟨g, rfl, (Array.getElem?_eq_some_iff.1 h3).1, fun k x hx i u hu => ?_⟩
    have hk := (List.getElem?_eq_some_iff.1 hx).1
    have hi : i < 4 := (List.getElem?_eq_some_iff.1 hu).1
    have hc : W.cell? ⟨g, k * 4 + i, none⟩ = cur[k * 4 + i]? := by simp [World.cell?, show W.heap[g]? = _ from h3]
    rw [hc, take_get h7 _ (by omega)]
    exact wrow_get l k x hx i u hu
def fillOf (b : Int) : Bs := if Int.tmod b 3 = 0 then [47, 47, 32, 115, 111, 10] else if Int.tmod b 3 = 1 then [10, 9, 32] else []
theorem fillOf_idle (b : Int) : Idle (fillOf b) := by
  unfold fillOf
  split
  · exact idle_so
  · split
    · exact idle_ln
    · exact idle_no
theorem fillOf_len (b : Int) : (fillOf b).length ≤ 16 := by
  unfold fillOf
  split
  · decide
  · split <;> decide
theorem classes_nil (W : World) : ClassesIn W [] (.slice none 0 0) := ⟨none, 0, rfl, Nat.le_refl _, Nat.zero_le _, fun _ => .slice none 0 0, fun _ => .slice none 0 0, fun j m h => by simp at h, fun h => absurd rfl h⟩
set_option maxRecDepth 100000 in
set_option maxHeartbeats 4000000 in
theorem parseBlanks_any (s : ByteArray) (b : Int) (hs : s.size ≤ 140737488351232) (hb : (Lit.int .i64 b).wf = true) (W : World) (hS : SpaceAt W) : Calls Tryz.prog 6 #[.string s, .int .i64 b] W fun e W' => e = .returned (.bool true) ∧ Below W.heap.size W W' := by
  have h1 := words_any W s hs hS
  have hpf := parse_fill (fillOf b) (fillOf_idle b) (bl s)
  have hok := lexL_ok (l := bl s)
  have hisw := lexL_isW (bl s)
  have HP := Lib.hid (fun w (h : SpaceAt w) => parse_any w s hs h)
  obtain ⟨⟨l1, at1, e1⟩, hR1⟩ : ∃ R, R = lexL (bl s) := ⟨_, rfl⟩
  have hn1 := lexL_len (bl s)
  rw [← hR1] at h1 hn1 hpf hisw hok
  dsimp only at h1 hn1 hpf hisw hok
  have H1 := Lib.hid h1
  have HS := Lib.hid hS
  clear h1 hS hR1
  by_cases he1 : e1 = 0
  · subst he1
    have hat := hok rfl
    simp only [Prod.mk.injEq, and_true, true_and] at hat
    subst hat
    replace hpf := hpf l1 rfl
    by_cases hlong : 1000 < l1.length
    · have hlg : (1000 : Int) < (l1.length : Int) := by omega
      clear hpf hisw hok hlong
      go_enter Tryz.func6, Tryz.ntmps6
      go_wp2_with fail
      refine H1.out.mono ?_
      rintro e w1 ⟨v1, rfl, hown1, b1⟩
      obtain ⟨A1, c1, rfl⟩ := own_form hown1
      have B1 := Lib.hid b1
      clear hown1 b1
      go_wp2_with fail
      refine (known25_any _ (HS.out.mono B1.out)).mono ?_
      rintro e w4 ⟨rfl, b4⟩
      have B4 := Lib.hid (B1.out.trans (b4.mono B1.out.size))
      clear b4
      go_wp2_with fail
      go_ret
      exact ⟨rfl, B4.out⟩
    · have htx : ∀ x ∈ l1, x.text.length ≤ 20000 := fun x hx => (hisw x hx).text
      have HTX := Lib.hid htx
      have HPF := Lib.hid hpf
      clear hpf hisw hok htx
      go_enter Tryz.func6, Tryz.ntmps6
      go_wp2_with fail
      refine H1.out.mono ?_
      rintro e w1 ⟨v1, rfl, hown1, b1⟩
      obtain ⟨A1, c1, rfl⟩ := own_form hown1
      have hwc := Lib.hid (words_cells hown1)
      have B1 := Lib.hid b1
      clear hown1 b1
      go_wp2_with fail
      obtain ⟨f, hf⟩ : ∃ f, f = fillOf b := ⟨_, rfl⟩
      rw [← hf] at HPF
      have hfl : f.length ≤ 16 := by rw [hf]; exact fillOf_len b
      have HF := Lib.hid hf
      have hsz1 : w1.heap.size ≤ w1.heap.size := Nat.le_refl _
      have HB0 := Lib.hid (Below.refl w1.heap.size w1)
      clear hf
      go_loopw [8, 9] (fun s8 s9 wr => ∃ (k : Nat), k ≤ l1.length ∧ s8 = .string (mkB (fillL f (l1.take k))) ∧ s9 = .int .i64 (k : Int) ∧ Hid (Below w1.heap.size w1 wr)) (fun _ s9 _ => l1.length - (intOf s9).toNat)
      case atStart => exact ⟨0, Nat.zero_le _, rfl, rfl, HB0⟩
      case round =>
        clear HB0
        obtain ⟨k, hk, rfl, rfl, HB⟩ := hrel
        obtain ⟨J, hJ⟩ : ∃ J, J = fillL f (l1.take k) := ⟨_, rfl⟩
        by_cases hkn : k < l1.length
        · obtain ⟨x, hx⟩ : ∃ x, l1[k]? = some x := ⟨_, List.getElem?_eq_getElem hkn⟩
          obtain ⟨g, rfl, hg, hcells⟩ := hwc.out (by rintro rfl; simp at hkn)
          have hc := fun i u hu => (HB.out.cell (p := ⟨g, k * 4 + i, none⟩) hg).trans (hcells k x hx i u hu)
          have c0 := hc 0 _ rfl
          have c1 := hc 1 _ rfl
          have c2 := hc 2 _ rfl
          have c3 := hc 3 _ rfl
          simp only [Nat.add_zero] at c0
          have htx : x.text.length ≤ 20000 := HTX.out x (List.mem_of_getElem? hx)
          have hen := encW_len x htx
          have hsn : fillL f (l1.take (k + 1)) = J ++ (encW x ++ [32]) ++ f := by rw [List.take_add_one, hx, Option.toList_some, fillL_snoc, hJ]
          have hjl := fillL_len f hfl (l1.take k) (fun y hy => HTX.out y (List.mem_of_mem_take hy))
          have hln : (l1.take k).length = k := by rw [List.length_take]; omega
          rw [hln, ← hJ] at hjl
          rw [← hJ]
          have hjn : joinL [x] = encW x ++ [32] := by simp [joinL]
          have HSN := Lib.hid hsn
          clear hx hc hcells hsn hJ
          have hlt := HB.out.size
          have hnb := (Blk.new wr 36 #[.int .i64 x.kind, .string (mkB x.text), .int .i64 x.n, .int .i64 x.at_])
          have hjc : ∀ k' y, [x][k']? = some y → ∀ i u, (wcells y)[i]? = some u → (wr.alloc (.cells #[.int .i64 x.kind, .string (mkB x.text), .int .i64 x.n, .int .i64 x.at_] 36)).cell? ⟨wr.heap.size, k' * 4 + i, none⟩ = some u := fun k' y hy i u hu => by
            obtain rfl : k' = 0 := by have := (List.getElem?_eq_some_iff.1 hy).1; simp at this; exact this
            obtain rfl : x = y := by simpa using hy
            rw [Nat.zero_mul, Nat.zero_add, hnb.cell, ← hu]
            simp [wcells]
          have hjo := join_any (wr.alloc (.cells #[.int .i64 x.kind, .string (mkB x.text), .int .i64 x.n, .int .i64 x.at_] 36)) (some ⟨wr.heap.size, 0, none⟩) 1 [x] (by simp) (by simpa using htx) (fun _ => ⟨wr.heap.size, rfl, by simp, hjc⟩)
          rw [hjn] at hjo
          have HJO := Lib.hid hjo
          have hba := Lib.hid (HB.out.alloc HB.out.size (.cells #[.int .i64 x.kind, .string (mkB x.text), .int .i64 x.n, .int .i64 x.at_] 36))
          clear hjo hnb hjc hjn
          go_wp2_with fail
          refine HJO.out.mono ?_
          rintro e w2 ⟨rfl, b2⟩
          have HB2 := Lib.hid (hba.out.trans (b2.mono hba.out.size))
          have hcat : mkB J ++ mkB (encW x ++ [32]) = mkB (J ++ (encW x ++ [32])) := bl_inj (by rw [bl_append, bl_mkB, bl_mkB, bl_mkB])
          have hk4 : J.length ≤ 100000000 := by
            have : k * 40100 ≤ 1000 * 40100 := Nat.mul_le_mul_right _ (by omega)
            omega
          have z1 : (mkB J).size ≤ 100000000 := by rw [mkB_size]; exact hk4
          have z2 : (mkB (encW x ++ [32])).size ≤ 50000 := by rw [mkB_size, List.length_append]; simp only [List.length_cons, List.length_nil]; omega
          have z3 : (mkB (J ++ (encW x ++ [32]))).size ≤ 100050000 := by rw [mkB_size, List.length_append, List.length_append]; simp only [List.length_cons, List.length_nil]; omega
          clear b2
          by_cases t0 : Int.tmod b 3 = 0
          · have hf0 : f = [47, 47, 32, 115, 111, 10] := by rw [HF.out, fillOf, if_pos t0]
            go_wp2_with fail
            go_roundw
            case rel => exact ⟨k + 1, by omega, by rw [HSN.out, hf0]; exact congrArg Value.string (bl_inj (by simp only [bl_append, bl_mkB] <;> simp [bl])), by go_num, HB2⟩
            case measure => simp [intOf]; omega
          · by_cases t1 : Int.tmod b 3 = 1
            · have hf0 : f = [10, 9, 32] := by rw [HF.out, fillOf, if_neg t0, if_pos t1]
              go_wp2_with fail
              go_roundw
              case rel => exact ⟨k + 1, by omega, by rw [HSN.out, hf0]; exact congrArg Value.string (bl_inj (by simp only [bl_append, bl_mkB] <;> simp [bl])), by go_num, HB2⟩
              case measure => simp [intOf]; omega
            · have hf0 : f = [] := by rw [HF.out, fillOf, if_neg t0, if_neg t1]
              go_wp2_with fail
              go_roundw
              case rel => exact ⟨k + 1, by omega, by rw [HSN.out, hf0]; exact congrArg Value.string (bl_inj (by simp only [bl_append, bl_mkB] <;> simp [bl])), by go_num, HB2⟩
              case measure => simp [intOf]; omega
        · obtain rfl : k = l1.length := by omega
          have hJ2 : J = fillL f l1 := by rw [hJ, List.take_length]
          rw [← hJ, hJ2]
          clear hJ hJ2 hkn
          have hjl := fillL_len f hfl l1 (fun y hy => HTX.out y hy)
          have B2 := Lib.hid (B1.out.trans (HB.out.mono B1.out.size))
          have hsz := mkB_size (fillL f l1)
          by_cases hlong2 : 16384 < (fillL f l1).length
          · have hlg2 : (16384 : Int) < ((mkB (fillL f l1)).size : Int) := by omega
            clear hsz hlong2
            go_wp2_with fail
            refine (known25_any _ (HS.out.mono B2.out)).mono ?_
            rintro e w9 ⟨rfl, b9⟩
            have B9 := Lib.hid (B2.out.trans (b9.mono B2.out.size))
            clear b9
            go_wp2_with fail
            go_ret
            exact ⟨rfl, B9.out⟩
          · have hlg2 : ((mkB (fillL f l1)).size : Int) ≤ 16384 := by omega
            have hpf := HPF.out (by omega)
            have h3 := fun w (h : SpaceAt w) => parse_any w (mkB (fillL f l1)) (by rw [mkB_size]; omega) h
            rw [bl_mkB] at h3
            have h2 := HP.out
            clear HP HPF
            rcases hpf with ⟨x, y, px, py, hxy⟩ | ⟨p, q, why, px, py⟩
            · rw [px] at h2
              rw [py] at h3
              have hcx := parse_few px
              have hcy := parse_few py
              have H2 := Lib.hid h2
              have H3 := Lib.hid h3
              have HXY := Lib.hid hxy.symm
              clear h2 h3 px py hxy hsz
              go_wp2_with fail
              refine (H2.out _ (HS.out.mono B2.out)).mono ?_
              rintro e w3 ⟨b3, v3, rfl, c3⟩
              obtain ⟨a3, d3, rfl⟩ := c3.form
              have B3 := Lib.hid (B2.out.trans (b3.mono B2.out.size))
              have C3 := Lib.hid c3.all
              clear b3 c3
              go_wp2_with fail
              refine (H3.out _ (HS.out.mono B3.out)).mono ?_
              rintro e w4 ⟨b4, v4, rfl, c4⟩
              obtain ⟨a4, d4, rfl⟩ := c4.form
              have B4 := Lib.hid (B3.out.trans (b4.mono B3.out.size))
              have C34 := Lib.hid (C3.out.later b4)
              have C4 := Lib.hid c4.all
              clear b4 c4
              go_wp2_with fail
              refine (taken_any x hcx _ _ C34.out).mono ?_
              rintro e w5 ⟨v5, rfl, t5, b5⟩
              have t5' := t5.at_
              obtain ⟨a5, d5, rfl⟩ := t5'.form
              have B5 := Lib.hid (B4.out.trans (b5.mono B4.out.size))
              have T5 := Lib.hid t5'.all
              have C25 := Lib.hid (C4.out.later b5)
              clear b5 t5 t5'
              go_wp2_with fail
              refine (taken_any y hcy _ _ C25.out).mono ?_
              rintro e w6 ⟨v6, rfl, t6, b6⟩
              have t6' := t6.at_
              obtain ⟨a6, d6, rfl⟩ := t6'.form
              have B6 := Lib.hid (B5.out.trans (b6.mono B5.out.size))
              have T56 := Lib.hid (T5.out.later b6)
              have T6 := Lib.hid t6'.all
              clear b6 t6 t6'
              go_wp2_with fail
              refine (rsameAll_any x y _ _ _ T56.out T6.out).mono ?_
              rintro e w7 ⟨rfl, b7⟩
              rw [(sameCs_iff x y).2 HXY.out]
              have B7 := Lib.hid (B6.out.trans (b7.mono B6.out.size))
              clear b7
              go_wp2_with fail
              refine (known25_any _ (HS.out.mono B7.out)).mono ?_
              rintro e w9 ⟨rfl, b9⟩
              have B9 := Lib.hid (B7.out.trans (b9.mono B7.out.size))
              clear b9
              go_wp2_with fail
              go_ret
              exact ⟨rfl, B9.out⟩
            · rw [px] at h2
              rw [py] at h3
              have H2 := Lib.hid h2
              have H3 := Lib.hid h3
              clear h2 h3 px py hsz
              go_wp2_with fail
              refine (H2.out _ (HS.out.mono B2.out)).mono ?_
              rintro e w3 ⟨b3, rfl⟩
              have B3 := Lib.hid (B2.out.trans (b3.mono B2.out.size))
              clear b3
              go_wp2_with fail
              refine (H3.out _ (HS.out.mono B3.out)).mono ?_
              rintro e w4 ⟨b4, rfl⟩
              have B4 := Lib.hid (B3.out.trans (b4.mono B3.out.size))
              have C4 := Lib.hid (classes_nil w4)
              clear b4
              go_wp2_with fail
              refine (taken_any [] (by simp [cntCs]) _ _ C4.out).mono ?_
              rintro e w5 ⟨v5, rfl, t5, b5⟩
              have t5' := t5.at_
              obtain ⟨a5, d5, rfl⟩ := t5'.form
              have B5 := Lib.hid (B4.out.trans (b5.mono B4.out.size))
              have T5 := Lib.hid t5'.all
              have C25 := Lib.hid (C4.out.later b5)
              clear b5 t5 t5'
              go_wp2_with fail
              refine (taken_any [] (by simp [cntCs]) _ _ C25.out).mono ?_
              rintro e w6 ⟨v6, rfl, t6, b6⟩
              have t6' := t6.at_
              obtain ⟨a6, d6, rfl⟩ := t6'.form
              have B6 := Lib.hid (B5.out.trans (b6.mono B5.out.size))
              have T56 := Lib.hid (T5.out.later b6)
              have T6 := Lib.hid t6'.all
              clear b6 t6 t6'
              go_wp2_with fail
              refine (rsameAll_any [] [] _ _ _ T56.out T6.out).mono ?_
              rintro e w7 ⟨rfl, b7⟩
              rw [(sameCs_iff [] []).2 rfl]
              have B7 := Lib.hid (B6.out.trans (b7.mono B6.out.size))
              clear b7
              go_wp2_with fail
              refine (known25_any _ (HS.out.mono B7.out)).mono ?_
              rintro e w9 ⟨rfl, b9⟩
              have B9 := Lib.hid (B7.out.trans (b9.mono B7.out.size))
              clear b9
              go_wp2_with fail
              go_ret
              exact ⟨rfl, B9.out⟩
  · have he2 : (e1 != 0) = true := by simpa using he1
    clear hpf hisw hok
    go_enter Tryz.func6, Tryz.ntmps6
    go_wp2_with fail
    refine H1.out.mono ?_
    rintro e w1 ⟨v1, rfl, hown1, b1⟩
    obtain ⟨A1, c1, rfl⟩ := own_form hown1
    have B1 := Lib.hid b1
    clear hown1 b1
    go_wp2_with fail
    refine (known25_any _ (HS.out.mono B1.out)).mono ?_
    rintro e w9 ⟨rfl, b9⟩
    have B9 := Lib.hid (B1.out.trans (b9.mono B1.out.size))
    clear b9
    go_wp2_with fail
    go_ret
    exact ⟨rfl, B9.out⟩
end Go.Proofs.YtcaigcmbgihhkaaGreatDoor
namespace Go.Proofs.YtcaigcmbgihhkaaGreatDoor
end Go.Proofs.YtcaigcmbgihhkaaGreatDoor
