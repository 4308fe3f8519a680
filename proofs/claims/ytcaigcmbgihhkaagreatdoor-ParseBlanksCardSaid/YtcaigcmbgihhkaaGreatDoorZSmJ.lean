/-
  Part of a proof: SmJ.
-/
import Derived.Test.YtcaigcmbgihhkaaGreatDoorZSmI
import Derived.Deep.RegionHeld3
import Derived.Maps.AppendAt
namespace Go.Proofs.YtcaigcmbgihhkaaGreatDoor
open Go Go.RowKit Go.Shelf
set_option linter.unusedVariables false
set_option linter.unusedSimpArgs false
attribute [local go_sem] Oper.semAt_some
theorem five_go {W : World} {q : Nat} {T : TypeId} {a0 a1 a2 a3 a4 a b c d e : Value} {P : World → Prop} (h : Blk W q T #[a0, a1, a2, a3, a4]) (k : ∀ W', Blk W' q T #[a, b, c, d, e] → Touch (fun i => i = q) W W' → P W') :
    P (((((W.setCell ⟨q, 0, none⟩ a).setCell ⟨q, 1, none⟩ b).setCell ⟨q, 2, none⟩ c).setCell ⟨q, 3, none⟩ d).setCell ⟨q, 4, none⟩ e) := by
  refine k _ ?_ ?_
  · have := ((((h.set 0 a).set 1 b).set 2 c).set 3 d).set 4 e
    simpa using this
  · exact (((((Touch.refl (fun i => i = q) W).setCell (p := ⟨q, 0, none⟩) (.inl rfl) _).setCell (p := ⟨q, 1, none⟩) (.inl rfl) _).setCell (p := ⟨q, 2, none⟩) (.inl rfl) _).setCell (p := ⟨q, 3, none⟩) (.inl rfl) _).setCell (p := ⟨q, 4, none⟩) (.inl rfl) _
def laterX : Op := Op.load 53 (Operand.tmp 54)
@[simp] theorem laterX_is : laterX = Op.load 53 (Operand.tmp 54) := rfl
set_option maxRecDepth 100000 in
set_option maxHeartbeats 20000000 in
theorem taken_any (l : List ClassD) (hcnt : cntCs l ≤ 16384) (v : Value) (w : World) (h : ClassesIn w l v) :
    Calls Tryz.prog 18 #[v] w fun e w' => ∃ v', e = .returned v' ∧ COwn 55 (fun k => w.heap.size ≤ k) w.heap.size w' v' l ∧ Below w.heap.size w w' := by
  have hlen : l.length ≤ 16384 := by have := cntCs_len l; omega
  obtain ⟨ao, c, rfl⟩ := h.form
  have H := Lib.hid h
  have HC := Lib.hid hcnt
  obtain ⟨n, hn⟩ : ∃ n, n = l.length := ⟨_, rfl⟩
  rw [← hn] at hlen ⊢
  have HN := Lib.hid hn
  clear h hn hcnt
  have hnil := Lib.hid (COwn.nil (T := 55) (fun q => w.heap.size ≤ q) w.heap.size w)
  go_enter Tryz.func18, Tryz.ntmps18
  go_wp2_with fail
  go_loopw [3, 4] (fun s3 s4 wr => ∃ (k : Nat), k ≤ n ∧ s4 = .int .i64 (k : Int) ∧ Hid (COwn 55 (fun q => w.heap.size ≤ q) w.heap.size wr s3 (l.take k)) ∧ Hid (Below w.heap.size w wr)) (fun _ s4 _ => n - (intOf s4).toNat)
  case atStart => exact ⟨0, Nat.zero_le _, rfl, hnil, Lib.hid (Below.refl _ _)⟩
  case round =>
    clear hnil
    obtain ⟨k, hk, rfl, CO, hb⟩ := hrel
    obtain ⟨ps, hps, ho, hkk⟩ := CO.out
    have hlk : (l.take k).length = k := by rw [List.length_take]; have := HN.out; omega
    rw [hlk] at ho
    obtain ⟨sa, sc, rfl⟩ := own_form ho
    have HPS := Lib.hid hps
    have HO := Lib.hid ho
    have HKK := Lib.hid hkk
    have HLK := Lib.hid hlk
    have hownc : ∀ q, some q = (Value.slice sa k sc).ownBlock → w.heap.size ≤ q ∧ q < wr.heap.size := fun q e => ho.lt q e.symm
    clear hps ho hkk
    by_cases hkn : k < n
    · obtain ⟨x, hx⟩ : ∃ x, l[k]? = some x := ⟨_, List.getElem?_eq_getElem (by rw [← HN.out]; exact hkn)⟩
      have K := H.out.later hb.out
      obtain ⟨g, o, c1, tv, kv, e, q1, q2, ⟨hf, hms⟩, a0, a1, a2, a3, a4⟩ := K.at_ hx
      simp only [Value.slice.injEq] at e
      obtain ⟨rfl, -, rfl⟩ := e
      have lg := cell_lt a0
      obtain ⟨fa, fc, rfl⟩ := hf.form
      obtain ⟨ma, mc, rfl⟩ := hms.form
      have htk : l.take (k + 1) = l.take k ++ [x] := by rw [List.take_add_one, hx]; rfl
      have hcx : cntC x ≤ 16384 := Nat.le_trans (cntCs_mem (List.mem_of_getElem? hx)) HC.out
      have hfl : x.fields.length ≤ 1000000 := by simp only [cntC] at hcx; omega
      have HTK := Lib.hid htk
      have HCX := Lib.hid hcx
      have HF := Lib.hid (show ParamsIn wr x.fields _ from hf)
      have HMS := Lib.hid (show MethodsIn wr x.methods _ from hms)
      have hbs : w.heap.size ≤ wr.heap.size := hb.out.size
      have cf : ∀ wq : World, Below wr.heap.size wr wq → wq.cell? ⟨g, o + k * 5, none⟩ = some (.string (mkB x.name)) ∧ wq.cell? ⟨g, o + k * 5 + 1, none⟩ = some (.string (mkB x.super)) ∧ wq.cell? ⟨g, o + k * 5 + 4, none⟩ = some (.int .i64 x.at_) ∧ wq.cell? ⟨g, o + k * 5 + 2, none⟩ = some (.slice fa x.fields.length fc) := fun wq hq =>
        ⟨(World.cell?_of_block (a := ⟨g, o + k * 5, none⟩) (hq.block g lg)).trans a0, (World.cell?_of_block (a := ⟨g, o + k * 5 + 1, none⟩) (hq.block g lg)).trans a1, (World.cell?_of_block (a := ⟨g, o + k * 5 + 4, none⟩) (hq.block g lg)).trans a4, (World.cell?_of_block (a := ⟨g, o + k * 5 + 2, none⟩) (hq.block g lg)).trans a2⟩
      have CF := Lib.hid cf
      have ba := Lib.hid (below_drew ((Below.refl wr.heap.size wr).alloc (Nat.le_refl _) (.cells #[.string ⟨#[]⟩, .string ⟨#[]⟩, .slice none 0 0, .slice none 0 0, .int .i64 0] 55)))
      have bd := Lib.hid (below_drew (Below.refl wr.heap.size wr))
      clear K hx htk hcx hf hms cf
      go_wp2_with fail
      go_region_held3 (fun wq => wq.cell? ⟨g, o + k * 5, none⟩ = some (.string (mkB x.name)) ∧ wq.cell? ⟨g, o + k * 5 + 1, none⟩ = some (.string (mkB x.super)) ∧ wq.cell? ⟨g, o + k * 5 + 4, none⟩ = some (.int .i64 x.at_) ∧ wq.cell? ⟨g, o + k * 5 + 2, none⟩ = some (.slice fa x.fields.length fc)) (first | exact CF.out _ (((((HB1.out.setCell (p := ⟨wr.heap.size, 0, none⟩) (Nat.le_refl _) _).setCell (p := ⟨wr.heap.size, 1, none⟩) (Nat.le_refl _) _).setCell (p := ⟨wr.heap.size, 2, none⟩) (Nat.le_refl _) _).setCell (p := ⟨wr.heap.size, 3, none⟩) (Nat.le_refl _) _).setCell (p := ⟨wr.heap.size, 4, none⟩) (Nat.le_refl _) _) | exact CF.out _ (HB1.out.alloc HB1.out.size _) | exact CF.out _ HB1.out | exact CF.out _ ba.out | exact CF.out _ bd.out) (first | (go_at_call 38; refine (tparams_any x.fields hfl _ _ (HF.out.later (by first | exact ba.out | exact bd.out))).mono ?_; rintro e w1 ⟨fv, rfl, hfv, hb1⟩; obtain ⟨fa', fc', rfl⟩ := hfv.form; have HFV := Lib.hid hfv; have HB1 : Hid (Below wr.heap.size wr w1) := Lib.hid (by first | exact ba.out.trans (hb1.mono ba.out.size) | exact bd.out.trans (hb1.mono bd.out.size)); have HBQ := Lib.hid hb1; (first | (have bx : Blk w1 wr.heap.size 55 #[.string ⟨#[]⟩, .string ⟨#[]⟩, .slice none 0 0, .slice none 0 0, .int .i64 0] := ((Blk.new wr 55 #[.string ⟨#[]⟩, .string ⟨#[]⟩, .slice none 0 0, .slice none 0 0, .int .i64 0]).drew).below hb1 (by show wr.heap.size < (wr.alloc _).heap.size; rw [World.size_alloc]; exact Nat.lt_succ_self _); obtain ⟨x0, x1, x2, x3, x4, xf, xl⟩ := bx.five; have BX := Lib.hid bx; clear bx) | skip); clear hfv hb1))
      all_goals
        (first
          | (refine five_go (P := fun W' => Exit.then _ _ Exit.normal _ W') BX.out (a := .string (mkB x.name)) (b := .string (mkB x.super)) (c := .slice fa' x.fields.length fc') (d := .slice none 0 0) (e := .int .i64 x.at_) ?_
             intro wz bx ht
             have fx : ParamsAt (fun q => wr.heap.size ≤ q ∧ q ≠ wr.heap.size) wz x.fields (.slice fa' x.fields.length fc') := HFV.out.keep (fun q h1 h2 => by have h3 : (wr.alloc _).heap.size ≤ q := h1; rw [World.size_alloc] at h3; omega) (fun q h1 h2 => ht.block q h2 (by have h3 : (wr.alloc _).heap.size ≤ q := h1; rw [World.size_alloc] at h3; omega))
             have hz : Below wr.heap.size wr wz := HB1.out.trans (Touch.below ht (n := wr.heap.size) HB1.out.size (fun q hq => by omega))
             obtain ⟨X, hX⟩ : ∃ X, X = wr.heap.size := ⟨_, rfl⟩
             have bx2 : Blk wz X 55 #[.string (mkB x.name), .string (mkB x.super), .slice fa' x.fields.length fc', .slice none 0 0, .int .i64 x.at_] := by rw [hX]; exact bx
             have fx2 : ParamsAt (fun q => wr.heap.size ≤ q ∧ q ≠ X) wz x.fields (.slice fa' x.fields.length fc') := by rw [hX]; exact fx
             have hXle : wr.heap.size ≤ X := by omega
             simp only [← hX]
             have BXX := Lib.hid bx2
             have FXX := Lib.hid fx2
             have BWZ := Lib.hid hz
             clear bx fx bx2 fx2 hz ht BX x0 x1 x2 x3 x4 xf xl)
          | (have bx := Blk.new w1 55 #[.string (mkB x.name), .string (mkB x.super), .slice fa' x.fields.length fc', .slice none 0 0, .int .i64 x.at_]
             have fx : ParamsAt (fun q => wr.heap.size ≤ q ∧ q ≠ w1.heap.size) (w1.alloc (.cells #[.string (mkB x.name), .string (mkB x.super), .slice fa' x.fields.length fc', .slice none 0 0, .int .i64 x.at_] 55)) x.fields (.slice fa' x.fields.length fc') := HFV.out.keep (fun q h1 h2 => ⟨h1, by omega⟩) (fun q h1 h2 => Below.heap_alloc w1 _ q h2)
             have hz := HB1.out.alloc HB1.out.size (.cells #[.string (mkB x.name), .string (mkB x.super), .slice fa' x.fields.length fc', .slice none 0 0, .int .i64 x.at_] 55)
             have hXle : wr.heap.size ≤ w1.heap.size := HB1.out.size
             generalize w1.alloc (.cells #[.string (mkB x.name), .string (mkB x.super), .slice fa' x.fields.length fc', .slice none 0 0, .int .i64 x.at_] 55) = wz at bx fx hz ⊢
             obtain ⟨X, hX⟩ : ∃ X, X = w1.heap.size := ⟨_, rfl⟩
             rw [← hX] at bx fx hXle
             simp only [← hX]
             have BXX := Lib.hid bx
             have FXX := Lib.hid fx
             have BWZ := Lib.hid hz
             clear bx fx hz))
      all_goals
        clear hX HFV HB1 HBQ CF ba bd a0 a1 a2 a4 HF
        have hXlt := BXX.out.lt
        obtain ⟨NB, hNB⟩ : ∃ NB, NB = wz.heap.size := ⟨_, rfl⟩
        rw [← hNB] at hXlt
        have hNw : wr.heap.size ≤ NB := by rw [hNB]; exact BWZ.out.size
        have FX2 := Lib.hid (FXX.out.keep (ok' := fun q => wr.heap.size ≤ q ∧ q ≠ X ∧ q < NB) (W' := wz) (fun q h1 h2 => ⟨h1.1, h1.2, by rw [hNB]; exact h2⟩) (fun _ _ _ => rfl))
        have MO := Lib.hid (MOwn.nil (T := 95) (fun q => NB ≤ q) NB wz)
        have hzN : NB ≤ wz.heap.size := Nat.le_of_eq hNB
        have hml : x.methods.length ≤ 16384 := by have := HCX.out; have := cntMs_len x.methods; simp only [cntC] at *; omega
        obtain ⟨M, hM⟩ : ∃ M, M = x.methods.length := ⟨_, rfl⟩
        rw [← hM] at hml a3 HMS
        have HM := Lib.hid hM
        have A3 := Lib.hid a3
        have LG := Lib.hid lg
        clear hM hNB FXX a3 lg
        go_wp2_with fail
        go_loopw [6] (fun s6 ws => ∃ (mv : Value) (j : Nat), j ≤ M ∧ s6 = .int .i64 (j : Int) ∧ Hid (Blk ws X 55 #[.string (mkB x.name), .string (mkB x.super), .slice fa' x.fields.length fc', mv, .int .i64 x.at_]) ∧ Hid (MOwn 95 (fun q => NB ≤ q) NB ws mv (x.methods.take j)) ∧ Hid (Below wr.heap.size wr ws) ∧ NB ≤ ws.heap.size ∧ Hid (ParamsAt (fun q => wr.heap.size ≤ q ∧ q ≠ X ∧ q < NB) ws x.fields (.slice fa' x.fields.length fc'))) (fun s6 _ => M - (intOf s6).toNat)
        case atStart => exact ⟨_, 0, Nat.zero_le _, rfl, BXX, MO, BWZ, hzN, FX2⟩
        case round =>
          clear BXX MO BWZ hzN FX2
          obtain ⟨mv, j, hj, rfl, BXX, MO, BWZ, hzN, FX2⟩ := hrel
          have a3 := (World.cell?_of_block (a := ⟨g, o + k * 5 + 3, none⟩) (BWZ.out.block g LG.out)).trans A3.out
          have lg := Nat.lt_of_lt_of_le LG.out BWZ.out.size
          obtain ⟨ps2, hps2, ho2, hkk2⟩ := MO.out
          have hlj : (x.methods.take j).length = j := by rw [List.length_take]; have := HM.out; omega
          rw [hlj] at ho2
          obtain ⟨mva, mvc, rfl⟩ := own_form ho2
          have HPS2 := Lib.hid hps2
          have HO2 := Lib.hid ho2
          have HKK2 := Lib.hid hkk2
          have HLJ := Lib.hid hlj
          clear hps2 ho2 hkk2 hlj
          by_cases hjM : j < M
          · obtain ⟨y, hy⟩ : ∃ y, x.methods[j]? = some y := ⟨_, List.getElem?_eq_getElem (by rw [← HM.out]; exact hjM)⟩
            have K := (show MethodsIn _ x.methods _ from HMS.out).later BWZ.out
            obtain ⟨g2, o2, c2, tv, kv, e, r1, r2, ⟨ht, hbd⟩, b0, b1, b2, b3, b4, b5, b6, b7, b8, b9⟩ := K.at_ hy
            simp only [Value.slice.injEq] at e
            obtain ⟨rfl, -, rfl⟩ := e
            have lg2 := cell_lt b0
            obtain ⟨ta, tc, rfl⟩ := ht.form
            obtain ⟨ka, kc, rfl⟩ := hbd.form
            have htk2 : x.methods.take (j + 1) = x.methods.take j ++ [y] := by rw [List.take_add_one, hy]; rfl
            have hcy : cntM y ≤ 16384 := by have h1 := HCX.out; have h2 := cntMs_mem (List.mem_of_getElem? hy); simp only [cntC] at h1; omega
            have htl : y.takes.length ≤ 1000000 := by simp only [cntM] at hcy; omega
            have hbc : cntN y.body ≤ 1000000 := by simp only [cntM] at hcy; omega
            have HTK2 := Lib.hid htk2
            have HT := Lib.hid (show ParamsIn _ y.takes _ from ht)
            have HK := Lib.hid (show KidsIn _ y.body.kids _ from hbd)
            have y0 := Blk.new wr 81 #[.string (mkB y.name), .string (mkB y.gives), .slice ta y.takes.length tc, .int .i64 y.body.op, .string (mkB y.body.text), .string (mkB y.body.type), .int .i64 y.body.n, .slice ka y.body.kids.length kc, .int .i64 y.body.at_, .int .i64 y.at_]
            have xx := BXX.out.alloc (.cells #[.string (mkB y.name), .string (mkB y.gives), .slice ta y.takes.length tc, .int .i64 y.body.op, .string (mkB y.body.text), .string (mkB y.body.type), .int .i64 y.body.n, .slice ka y.body.kids.length kc, .int .i64 y.body.at_, .int .i64 y.at_] 81)
            have bw := BWZ.out.alloc BWZ.out.size (.cells #[.string (mkB y.name), .string (mkB y.gives), .slice ta y.takes.length tc, .int .i64 y.body.op, .string (mkB y.body.text), .string (mkB y.body.type), .int .i64 y.body.n, .slice ka y.body.kids.length kc, .int .i64 y.body.at_, .int .i64 y.at_] 81)
            have ht2 := HT.out.later ((Below.refl _ _).alloc (Nat.le_refl _) (.cells #[.string (mkB y.name), .string (mkB y.gives), .slice ta y.takes.length tc, .int .i64 y.body.op, .string (mkB y.body.text), .string (mkB y.body.type), .int .i64 y.body.n, .slice ka y.body.kids.length kc, .int .i64 y.body.at_, .int .i64 y.at_] 81))
            have hk2 := HK.out.later ((Below.refl _ _).alloc (Nat.le_refl _) (.cells #[.string (mkB y.name), .string (mkB y.gives), .slice ta y.takes.length tc, .int .i64 y.body.op, .string (mkB y.body.text), .string (mkB y.body.type), .int .i64 y.body.n, .slice ka y.body.kids.length kc, .int .i64 y.body.at_, .int .i64 y.at_] 81))
            have fx := FX2.out.keep (ok' := fun q => _ ≤ q ∧ q ≠ X ∧ q < NB) (W' := (wr.alloc (.cells #[.string (mkB y.name), .string (mkB y.gives), .slice ta y.takes.length tc, .int .i64 y.body.op, .string (mkB y.body.text), .string (mkB y.body.type), .int .i64 y.body.n, .slice ka y.body.kids.length kc, .int .i64 y.body.at_, .int .i64 y.at_] 81))) (fun _ h _ => h) (fun q h1 h2 => Below.heap_alloc wr _ q h2)
            have hoA := HO2.out.alloc (.cells #[.string (mkB y.name), .string (mkB y.gives), .slice ta y.takes.length tc, .int .i64 y.body.op, .string (mkB y.body.text), .string (mkB y.body.type), .int .i64 y.body.n, .slice ka y.body.kids.length kc, .int .i64 y.body.at_, .int .i64 y.at_] 81)
            have hkA := fun p hp => (HKK2.out p hp).keep (W' := (wr.alloc (.cells #[.string (mkB y.name), .string (mkB y.gives), .slice ta y.takes.length tc, .int .i64 y.body.op, .string (mkB y.body.text), .string (mkB y.body.type), .int .i64 y.body.n, .slice ka y.body.kids.length kc, .int .i64 y.body.at_, .int .i64 y.at_] 81))) (fun _ h _ => h) (fun q h1 h2 => Below.heap_alloc wr _ q h2)
            have hzA : NB ≤ (wr.alloc (.cells #[.string (mkB y.name), .string (mkB y.gives), .slice ta y.takes.length tc, .int .i64 y.body.op, .string (mkB y.body.text), .string (mkB y.body.type), .int .i64 y.body.n, .slice ka y.body.kids.length kc, .int .i64 y.body.at_, .int .i64 y.at_] 81)).heap.size := by rw [World.size_alloc]; omega
            have hown2 : ∀ q, some q = (Value.slice mva j mvc).ownBlock → NB ≤ q ∧ q < wr.heap.size := fun q e => HO2.out.lt q e.symm
            clear HT HK FX2 HO2 HKK2 BXX BWZ
            go_wp2_with fail
            obtain ⟨Y, hY⟩ : ∃ Y, Y = wr.heap.size := ⟨_, rfl⟩
            obtain ⟨W1, hW1⟩ : ∃ W1, W1 = (wr.alloc (.cells #[.string (mkB y.name), .string (mkB y.gives), .slice ta y.takes.length tc, .int .i64 y.body.op, .string (mkB y.body.text), .string (mkB y.body.type), .int .i64 y.body.n, .slice ka y.body.kids.length kc, .int .i64 y.body.at_, .int .i64 y.at_] 81)) := ⟨_, rfl⟩
            have hY1 : Y < W1.heap.size := by rw [hW1, World.size_alloc]; omega
            rw [← hW1] at y0 xx bw ht2 hk2 fx hoA hzA
            simp only [← hW1] at hkA ⊢
            rw [← hY] at y0 hown2 hzN
            simp only [← hY]
            have hXW : X < W1.heap.size := by omega
            have sf : ∀ wq : World, Below W1.heap.size W1 wq → wq.cell? ⟨Y, 0, none⟩ = some (.string (mkB y.name)) ∧ wq.cell? ⟨Y, 1, none⟩ = some (.string (mkB y.gives)) ∧ wq.cell? ⟨Y, 2, none⟩ = some (.slice ta y.takes.length tc) ∧ wq.cell? ⟨Y, 3, none⟩ = some (.int .i64 y.body.op) ∧ wq.cell? ⟨Y, 4, none⟩ = some (.string (mkB y.body.text)) ∧ wq.cell? ⟨Y, 5, none⟩ = some (.string (mkB y.body.type)) ∧ wq.cell? ⟨Y, 6, none⟩ = some (.int .i64 y.body.n) ∧ wq.cell? ⟨Y, 7, none⟩ = some (.slice ka y.body.kids.length kc) ∧ wq.cell? ⟨Y, 8, none⟩ = some (.int .i64 y.body.at_) ∧ wq.cell? ⟨Y, 9, none⟩ = some (.int .i64 y.at_) := fun wq hq =>
              have Yb := y0.below hq hY1
              ⟨Yb.cell 0, Yb.cell 1, Yb.cell 2, Yb.cell 3, Yb.cell 4, Yb.cell 5, Yb.cell 6, Yb.cell 7, Yb.cell 8, Yb.cell 9⟩
            have SF := Lib.hid sf
            have XX := Lib.hid xx
            have Y0 := Lib.hid y0
            have hneY : some Y ≠ (Value.slice mva j mvc).ownBlock := fun e => by have := (hown2 Y e).2; omega
            have hneX : some X ≠ (Value.slice mva j mvc).ownBlock := fun e => by have := (hown2 X e).1; omega
            have BWZ := Lib.hid bw
            have HT := Lib.hid ht2
            have HK := Lib.hid hk2
            have FX2 := Lib.hid fx
            have HO2 := Lib.hid hoA
            have HKK2 := Lib.hid hkA
            have bd := Lib.hid (below_drew (Below.refl W1.heap.size W1))
            obtain ⟨i0, hi0, hz0, hz1, hz2⟩ := info_of rmethod_info
            have x3a : W1.drew.cell? ⟨X, 3, none⟩ = some (.slice mva j mvc) := xx.cell 3
            clear sf y0 xx bw ht2 hk2 fx hoA hkA b0 b1 b2 b3 b4 b5 b6 b7 b8 b9 a3 lg lg2 hW1 hY
            rw [← laterX_is]
            go_region_held3 (fun wq => wq.cell? ⟨Y, 0, none⟩ = some (.string (mkB y.name)) ∧ wq.cell? ⟨Y, 1, none⟩ = some (.string (mkB y.gives)) ∧ wq.cell? ⟨Y, 2, none⟩ = some (.slice ta y.takes.length tc) ∧ wq.cell? ⟨Y, 3, none⟩ = some (.int .i64 y.body.op) ∧ wq.cell? ⟨Y, 4, none⟩ = some (.string (mkB y.body.text)) ∧ wq.cell? ⟨Y, 5, none⟩ = some (.string (mkB y.body.type)) ∧ wq.cell? ⟨Y, 6, none⟩ = some (.int .i64 y.body.n) ∧ wq.cell? ⟨Y, 7, none⟩ = some (.slice ka y.body.kids.length kc) ∧ wq.cell? ⟨Y, 8, none⟩ = some (.int .i64 y.body.at_) ∧ wq.cell? ⟨Y, 9, none⟩ = some (.int .i64 y.at_)) (first | exact S4.out | exact S3.out | exact SF.out _ HB2.out | exact SF.out _ (HB2.out.alloc HB2.out.size _) | exact SF.out _ HB1.out | exact SF.out _ bd.out | fail) (first
              | (go_at_call 38; refine (tparams_any y.takes htl _ _ (HT.out.later bd.out)).mono ?_; rintro e w1 ⟨tv2, rfl, htv, hb1⟩; obtain ⟨ta', tc', rfl⟩ := htv.form; have HTV := Lib.hid htv; have HB1 : Hid (Below W1.heap.size W1 w1) := Lib.hid (bd.out.trans (hb1.mono bd.out.size)); have HQ1 := Lib.hid hb1; have x3b : w1.cell? ⟨X, 3, none⟩ = some (.slice mva j mvc) := (XX.out.below HB1.out hXW).cell 3; clear htv hb1)
              | (go_at_call 39; refine (node_any y.body hbc _ _ (HK.out.later HB1.out)).mono ?_; rintro e w2 ⟨kv2, rfl, hkv, hb2⟩; obtain ⟨ka', kc', rfl⟩ := hkv.form; have HKV := Lib.hid hkv; have HB2 : Hid (Below W1.heap.size W1 w2) := Lib.hid (HB1.out.trans (hb2.mono HB1.out.size)); have HQ2 := Lib.hid hb2; have O2 := Lib.hid (own_below HO2.out HB2.out); have hz2' := HB2.out.size; have x3d : w2.cell? ⟨X, 3, none⟩ = some (.slice mva j mvc) := (XX.out.below HB2.out hXW).cell 3; have x3e : ∀ o, (w2.alloc o).cell? ⟨X, 3, none⟩ = some (.slice mva j mvc) := fun o => ((XX.out.below HB2.out hXW).alloc o).cell 3; clear hkv hb2)
              | (refine step_append_lies _ rfl _ _ 53 rfl NB 95 i0 (.agg #[.string ⟨#[]⟩, .string ⟨#[]⟩, .slice none 0 0, .int .i64 0, .string ⟨#[]⟩, .string ⟨#[]⟩, .int .i64 0, .slice none 0 0, .int .i64 0, .int .i64 0]) 10 144 Tryz.underlying53 hi0 hz0 hz1 hz2 rfl (by decide) (.slice mva j mvc) j _ (by rfl) (O2.out.alloc _) ⟨w2.heap.size, 0, none⟩ 1 1 (mcells y (.slice ta' y.takes.length tc') (.slice ka' y.body.kids.length kc')) (by rfl) (by rfl) (news_at _ _ (mcells y (.slice ta' y.takes.length tc') (.slice ka' y.body.kids.length kc'))) (by simp [mcells, Value.oneCell']) (by omega) (by unfold maxLen; omega) (by omega) (by simp; omega) _ (by rfl) ?_; intro g0 cap w3 ho3 hg3 hat3 hlt3; have HO3 := Lib.hid ho3; have HG3 := Lib.hid hg3; have HAT3 := Lib.hid hat3; have yb3 := ((Y0.out.below HB2.out hY1).alloc _).kept hg3 hneY; have xb3 := ((XX.out.below HB2.out hXW).alloc _).kept hg3 hneX; have S3 := Lib.hid (show _ ∧ _ ∧ _ ∧ _ ∧ _ ∧ _ ∧ _ ∧ _ ∧ _ ∧ _ from ⟨yb3.cell 0, yb3.cell 1, yb3.cell 2, yb3.cell 3, yb3.cell 4, yb3.cell 5, yb3.cell 6, yb3.cell 7, yb3.cell 8, yb3.cell 9⟩); have yb4 := yb3.other (B' := X) (fun e => by omega) 3 (.slice (some ⟨g0, 0, none⟩) (j + 1) cap); have S4 := Lib.hid (show _ ∧ _ ∧ _ ∧ _ ∧ _ ∧ _ ∧ _ ∧ _ ∧ _ ∧ _ from ⟨yb4.cell 0, yb4.cell 1, yb4.cell 2, yb4.cell 3, yb4.cell 4, yb4.cell 5, yb4.cell 6, yb4.cell 7, yb4.cell 8, yb4.cell 9⟩); have x3c : w3.cell? ⟨X, 3, none⟩ = some (.slice mva j mvc) := xb3.cell 3; have x3f := xb3.frozen 3; have XB3 := Lib.hid xb3; clear ho3 hg3 hat3 yb3 yb4 xb3))
            all_goals
              have hlj := HLJ.out
              have hszW : W1.heap.size ≤ w2.heap.size := HB2.out.size
              have hsz12 : W1.heap.size ≤ w1.heap.size := HB1.out.size
              have mb := MOwn.appended (T := 95) (ok := fun q => NB ≤ q) (w1 := w2) (v' := .slice (some ⟨g0, 0, none⟩) (j + 1) cap) HPS2.out (fun p hp => (HKK2.out p hp).keep (W' := w2) (fun _ h _ => h) (fun q h1 h2 => HB2.out.block q h2)) (show MethodIn (fun q => NB ≤ q ∧ some q ≠ (Value.slice mva j mvc).ownBlock) w2 y (.slice ta' y.takes.length tc') (.slice ka' y.body.kids.length kc') from
                ⟨HTV.out.keep (W' := w2) (fun q h1 h2 => ⟨by have h3 : W1.heap.size ≤ q := h1; omega, fun e => by have := (hown2 q e).2; have h3 : W1.heap.size ≤ q := h1; omega⟩) (fun q h1 h2 => HQ2.out.block q h2), HKV.out.keep (W' := w2) (fun q h1 h2 => ⟨by have h3 : w1.heap.size ≤ q := h1; omega, fun e => by have := (hown2 q e).2; have h3 : w1.heap.size ≤ q := h1; omega⟩) (fun _ _ _ => rfl)⟩) (by rw [hlj]; exact HO3.out) HG3.out (HAT3.out.elim (fun e => .inl e.symm) (fun e => .inr (congrArg some e)))
              rw [← HTK2.out] at mb
              have MB := Lib.hid (mb.keep (W' := w3.setCell ⟨X, 3, none⟩ (.slice (some ⟨g0, 0, none⟩) (j + 1) cap)) (fun _ h _ => h) (fun q hq hl => Below.heap_setCell w3 ⟨X, 3, none⟩ _ q (by dsimp only; omega)) (fun g e => Below.heap_setCell w3 ⟨X, 3, none⟩ _ g (by have := (HO3.out.lt g e).1; dsimp only; omega)))
              have tb : Touch (fun q => q = X ∨ NB ≤ q) W1 (w3.setCell ⟨X, 3, none⟩ (.slice (some ⟨g0, 0, none⟩) (j + 1) cap)) := (((Touch.of_below (S := fun q => q = X ∨ NB ≤ q) HB2.out).alloc _).grown HG3.out (fun i e => .inl (.inr (hown2 i e.symm).1))).setCell (p := ⟨X, 3, none⟩) (.inl (.inl rfl)) _
              have hW1n := BWZ.out.size
              have BW2 := Lib.hid (BWZ.out.trans (Touch.below tb hW1n (fun q hq => by omega)))
              have bx := XB3.out.set 3 (.slice (some ⟨g0, 0, none⟩) (j + 1) cap)
              simp only [List.setIfInBounds_toArray, List.set_cons_zero, List.set_cons_succ] at bx
              have BX2 := Lib.hid bx
              have FX3 := Lib.hid (FX2.out.keep (ok' := fun q => _ ≤ q ∧ q ≠ X ∧ q < NB) (W' := w3.setCell ⟨X, 3, none⟩ (.slice (some ⟨g0, 0, none⟩) (j + 1) cap)) (fun _ h _ => h) (fun q h1 h2 => tb.block q h2 (by have := h1.2; omega)))
              have hz5 : NB ≤ (w3.setCell ⟨X, 3, none⟩ (.slice (some ⟨g0, 0, none⟩) (j + 1) cap)).heap.size := by have := tb.size; omega
              clear mb tb bx hlj
              go_wp2_with fail
              go_roundw
              case rel => exact ⟨_, j + 1, by omega, by go_num, BX2, MB, BW2, hz5, FX3⟩
              case measure => simp [intOf]; omega
          · obtain rfl : j = M := by omega
            have hms2 : x.methods.take j = x.methods := by rw [List.take_of_length_le]; have := HM.out; omega
            rw [hms2] at MO HPS2
            have MSH := Lib.hid (MO.out.shut (fun g e => (HO2.out.lt g e).1))
            have y0 := BXX.out.cell 0
            have y1 := BXX.out.cell 1
            have y2 := BXX.out.cell 2
            have y3 := BXX.out.cell 3
            have y4 := BXX.out.cell 4
            have hXl := BXX.out.lt
            obtain ⟨i0, hi0, hz0, hz1, hz2⟩ := info_of rclass_info
            have OC := Lib.hid (own_below HO.out BWZ.out)
            have KC := Lib.hid (fun p hp => (HKK.out p hp).keep (W' := wr) (fun _ h _ => h) (fun q h1 h2 => BWZ.out.block q h2))
            have hszR := BWZ.out.size
            clear hms2 MO HPS2 HO2 HKK2
            go_wp2_with (at_builtin; go_loud (refine wpList_append_own_at _ rfl _ _ 41 rfl w.heap.size 55 i0 (.agg #[.string ⟨#[]⟩, .string ⟨#[]⟩, .slice none 0 0, .slice none 0 0, .int .i64 0]) 5 88 Tryz.underlying41 hi0 hz0 hz1 hz2 rfl (by decide) _ k _ rfl (OC.out.alloc _) ⟨wr.heap.size, 0, none⟩ 1 1 (ccells x (.slice fa' x.fields.length fc') (.slice mva j mvc)) rfl rfl (news_at _ _ (ccells x (.slice fa' x.fields.length fc') (.slice mva j mvc))) (by simp [ccells, Value.oneCell']) (by unfold maxLen; omega) (by omega) (by first | omega | (simp; omega)) ?_); intro v9 w9 ho9 hg9 _ hat9; have HO9 := Lib.hid ho9; have HG9 := Lib.hid hg9; have HAT9 := Lib.hid hat9; clear ho9 hg9 hat9)
            have hlk2 := HLK.out
            have mc9 := COwn.appended (T := 55) (ok := fun q => w.heap.size ≤ q) (w1 := wr) HPS.out KC.out (show ClassIn (fun q => w.heap.size ≤ q ∧ some q ≠ Value.ownBlock _) wr x (.slice fa' x.fields.length fc') (.slice mva j mvc) from
              ⟨FX2.out.keep (fun q h1 h2 => ⟨by have := h1.1; omega, fun e => by have := (hownc q e).2; have := h1.1; omega⟩) (fun _ _ _ => rfl), MSH.out.keep (fun q h1 h2 => ⟨by omega, fun e => by have := (hownc q e).2; omega⟩) (fun _ _ _ => rfl)⟩) (by rw [hlk2]; exact HO9.out) HG9.out HAT9.out
            rw [← HTK.out] at mc9
            have MC := Lib.hid mc9
            have tb : Touch (fun q => w.heap.size ≤ q) wr w9 := ((Touch.refl (fun q => w.heap.size ≤ q) wr).alloc _).grown HG9.out (fun i e => .inl (hownc i e.symm).1)
            have hb9 := Lib.hid ((hb.out.trans (BWZ.out.mono hb.out.size)).trans (Touch.below tb (n := w.heap.size) (by omega) (fun q hq => hq)))
            clear mc9 tb hlk2
            go_wp2_with fail
            go_roundw
            case rel => exact ⟨k + 1, by omega, by go_num, MC, hb9⟩
            case measure => simp [intOf]; omega
    · obtain rfl : k = n := by omega
      have hks : l.take k = l := by rw [List.take_of_length_le]; have := HN.out; omega
      rw [hks] at CO
      clear hks hlk
      go_wp2_with fail
      go_ret
      exact ⟨_, rfl, CO.out, hb.out⟩
theorem COwn.at_ {T : TypeId} {n : Nat} {W : World} {v : Value} {l : List ClassD} (h : COwn T (fun k => n ≤ k) n W v l) : ClassesAt (fun k => n ≤ k) W l v := by
  obtain ⟨ps, h1, ho, hk⟩ := h
  exact COwn.shut ⟨ps, h1, ho, hk⟩ (fun g e => (ho.lt g e).1)
end Go.Proofs.YtcaigcmbgihhkaaGreatDoor
