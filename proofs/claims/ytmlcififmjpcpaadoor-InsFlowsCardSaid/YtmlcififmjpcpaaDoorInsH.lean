/-
  Bytes back: 'slices.Equal', 'bin.Get', 'number'.
-/
import Derived.Test.YtmlcififmjpcpaaDoorInsChecks
import Derived.Test.YtmlcififmjpcpaaDoorBytesB
namespace Go.Proofs.YtmlcififmjpcpaaDoor
open Go.RowKit
set_option linter.unusedVariables false
set_option linter.unusedSimpArgs false

attribute [local go_sem] Oper.semAt_some

theorem byte_at {n : Nat} {W : World} {v : Value} {xs : List UInt8} (h : BytesIn n W v xs) {b : Addr} {cap k : Nat} {x : UInt8} (hv : v = .slice (some b) xs.length cap) (hx : xs[k]? = some x) : W.cell? (b.add k) = some (.int .u8 (x.toNat : Int)) := by
  have := SliceIn.at_ (k := k) (j := 0) h hv (u := .int .u8 (x.toNat : Int)) (by simp [bcells, hx])
  simpa using this

set_option maxRecDepth 100000 in
set_option maxHeartbeats 2000000 in
theorem equal_any (W : World) (v1 v2 : Value) (xs ys : List UInt8) (n : Nat) (hn : n ≤ W.heap.size) (h1 : BytesIn n W v1 xs) (h2 : BytesIn n W v2 ys) (hl : xs.length ≤ 1000) :
    Calls Tryd.prog 47 #[v1, v2] W fun e W' => e = .returned (.bool (decide (xs = ys))) ∧ Below W.heap.size W W' := by
  obtain ⟨ao, cap, rfl, hcap, _⟩ := SliceIn.form h1
  obtain ⟨ao2, cap2, rfl, hcap2, _⟩ := SliceIn.form h2
  obtain ⟨r, hr⟩ : ∃ r, r = decide (xs = ys) := ⟨_, rfl⟩
  rw [← hr]
  by_cases hne : xs.length = ys.length
  · have hb : ((xs.length : Int) != (ys.length : Int)) = false := by simp [hne]
    have hb2 : (xs.length != ys.length) = false := by simp [hne]
    have hb3 : (xs.length == ys.length) = true := by simp [hne]
    have H1 := Lib.hid h1
    have H2 := Lib.hid h2
    have HR := Lib.hid hr
    have hW := Below.refl W.heap.size W
    have hne' := Lib.hid hne
    rw [← hne] at hcap2
    clear h1 h2 hr hne
    go_enter Tryd.func47, Tryd.ntmps47
    go_wp2
    go_loopw [13] (fun i wr => ∃ k : Nat, k ≤ xs.length ∧ i = .int .i64 k ∧ Hid (xs.take k = ys.take k) ∧ Hid (Below W.heap.size W wr)) (fun i _ => xs.length - (intOf i).toNat)
    case atStart => exact ⟨0, Nat.zero_le _, rfl, Lib.hid (by simp), Lib.hid hW⟩
    case round =>
      obtain ⟨k, hk, rfl, ht, hb'⟩ := hrel
      by_cases hlt : k < xs.length
      · obtain ⟨x, hx⟩ : ∃ x, xs[k]? = some x := ⟨_, List.getElem?_eq_getElem hlt⟩
        obtain ⟨y, hy⟩ : ∃ y, ys[k]? = some y := ⟨_, List.getElem?_eq_getElem (by have := hne'.out; omega)⟩
        obtain ⟨b1, _, hv1, _⟩ := SliceIn.some_ H1.out (by omega)
        obtain ⟨b2, _, hv2, _⟩ := SliceIn.some_ H2.out (by have := hne'.out; omega)
        cases hv1
        cases hv2
        have c1 := byte_at (SliceIn.later H1.out hn hb'.out) rfl hx
        have c2 := byte_at (SliceIn.later H2.out hn hb'.out) rfl hy
        have hlt2 : k < ys.length := by have := hne'.out; omega
        by_cases he : x = y
        · have e1 : ((x.toNat : Int) != (y.toNat : Int)) = false := by simp [he]
          have e2 : (x.toNat != y.toNat) = false := by simp [he]
          have e3 : (x.toNat == y.toNat) = true := by simp [he]
          have ht2 : xs.take (k + 1) = ys.take (k + 1) := by rw [List.take_add_one, List.take_add_one, ht.out, hx, hy, he]
          have ht2' := Lib.hid ht2
          have hD := Lib.hid (pw_below_drewN hb'.out)
          clear ht2 he hx hy
          go_wp2
          go_quiet (fail)
          go_wp2
          go_roundw
          case rel => exact ⟨k + 1, by omega, by simp, ht2', Lib.hid (hD.out _)⟩
          case measure => simp [intOf]; omega
        · have e1 : ((x.toNat : Int) != (y.toNat : Int)) = true := by simp; exact fun h => he (UInt8.toNat_inj.1 (by omega))
          have e2 : (x.toNat != y.toNat) = true := by simp; exact fun h => he (UInt8.toNat_inj.1 (by omega))
          have e3 : (x.toNat == y.toNat) = false := by simp; exact fun h => he (UInt8.toNat_inj.1 (by omega))
          have hr2 : r = false := by
            rw [HR.out]
            apply decide_eq_false
            intro h
            rw [h, hy] at hx
            exact he (Option.some.inj hx).symm
          subst hr2
          have hD := Lib.hid (pw_below_drewN hb'.out)
          clear he hx hy
          go_wp2
          go_quiet (fail)
          go_wp2
          go_ret
          exact ⟨rfl, hD.out _⟩
      · obtain rfl : k = xs.length := by omega
        have hr2 : r = true := by
          rw [HR.out]
          apply decide_eq_true
          have := ht.out
          rwa [List.take_length, hne'.out, List.take_length] at this
        subst hr2
        go_wp2
        go_ret
        exact ⟨rfl, hb'.out⟩
  · have hr2 : r = false := by
      rw [hr]
      apply decide_eq_false
      intro h
      exact hne (by rw [h])
    subst hr2
    have hb : ((xs.length : Int) != (ys.length : Int)) = true := by simp; omega
    have hb2 : (xs.length != ys.length) = true := by simp [hne]
    have hb3 : (xs.length == ys.length) = false := by simp [hne]
    clear h1 h2 hr hne
    go_enter Tryd.func47, Tryd.ntmps47
    go_wp2
    go_ret
    exact ⟨rfl, Below.refl _ _⟩

theorem i64_wrap (x : Int) : IntKind.i64.wrap x = wrap64 x := by rw [IntKind.wrap_i64]; unfold wrap64; omega

/-- What a round of 'Get' keeps. -/
structure GetAt (rest : List UInt8) (k u : Nat) : Prop where
  le : k ≤ rest.length
  ten : k ≤ 10
  led : k ≤ lead rest
  val : u = vval (rest.take k) % 18446744073709551616

set_option maxRecDepth 100000 in
set_option maxHeartbeats 4000000 in
theorem bget_any (W : World) (v : Value) (bs : List UInt8) (at_ : Int) (n : Nat) (hn : n ≤ W.heap.size) (hv : BytesIn n W v bs) (hl : bs.length ≤ 200000000000000) :
    Calls Tryd.prog 44 #[v, .int .i64 at_] W fun e W' => e = .returned (.tuple #[.int .i64 (getL bs at_).1, .int .i64 (getL bs at_).2.1, .int .i64 (getL bs at_).2.2]) ∧ Below W.heap.size W W' := by
  obtain ⟨ao, cap, rfl, hcap, hm, hao⟩ := SliceIn.form hv
  obtain ⟨⟨r1, r2, r3⟩, hR⟩ : ∃ R, R = getL bs at_ := ⟨_, rfl⟩
  rw [← hR]
  dsimp only
  by_cases c0 : at_ < 0
  · rw [getL, if_pos (.inl c0)] at hR
    cases hR
    have h0 : decide (at_ < 0) = true := decide_eq_true c0
    clear hv c0
    go_enter Tryd.func44, Tryd.ntmps44
    go_wp2
    go_ret3
    exact ⟨rfl, Below.refl _ _⟩
  obtain ⟨a, rfl⟩ : ∃ a : Nat, at_ = a := ⟨at_.toNat, by omega⟩
  have h0 : decide ((a : Int) < 0) = false := decide_eq_false c0
  by_cases c1 : bs.length < a
  · rw [getL, if_pos (.inr (by omega))] at hR
    cases hR
    have h1 : decide (bs.length < a) = true := decide_eq_true c1
    have h1' : decide ((bs.length : Int) < (a : Int)) = true := decide_eq_true (by omega)
    clear hv c0
    go_enter Tryd.func44, Tryd.ntmps44
    go_wp2
    go_ret3
    exact ⟨rfl, Below.refl _ _⟩
  have h1 : decide (bs.length < a) = false := decide_eq_false c1
  rw [getL, if_neg (by omega), Int.toNat_natCast] at hR
  by_cases c2 : cap = a
  · have he : bs.length - a = 0 := by omega
    have hd : bs.drop a = [] := List.drop_eq_nil_of_le (by omega)
    rw [hd] at hR
    cases hR
    subst c2
    have hle : bs.length = cap := by omega
    have hb0 : Below W.heap.size W W.drew := ⟨rfl, rfl, rfl, Nat.le_refl _, fun _ _ => rfl⟩
    cases ao with
    | none =>
      clear hv c0 c1 hd
      go_enter Tryd.func44, Tryd.ntmps44
      go_wp2
      go_region
      go_wp2
      go_loopw [27] (fun i wr => i = .int .i64 0 ∧ wr = W.drew) (fun i _ => 0)
      case atStart => exact ⟨rfl, rfl⟩
      case round =>
        obtain ⟨rfl, rfl⟩ := hrel
        go_wp2
        go_ret3
        exact ⟨rfl, hb0⟩
    | some b =>
      clear hv c0 c1 hd
      go_enter Tryd.func44, Tryd.ntmps44
      go_wp2
      go_region
      go_wp2
      go_loopw [27] (fun i wr => i = .int .i64 0 ∧ wr = W.drew) (fun i _ => 0)
      case atStart => exact ⟨rfl, rfl⟩
      case round =>
        obtain ⟨rfl, rfl⟩ := hrel
        go_wp2
        go_ret3
        exact ⟨rfl, hb0⟩
  cases ao with
  | none => exact absurd (hao rfl).2 (by have := (hao rfl).1; omega)
  | some b =>
    have hrest : ∀ w2, Below W.heap.size W w2 → ∀ j x, (bs.drop a)[j]? = some x → w2.cell? ((b.add a).add j) = some (.int .u8 (x.toNat : Int)) := fun w2 h j x hx => by
      rw [List.getElem?_drop] at hx
      rw [Go.Deep.add_add]
      exact byte_at (SliceIn.later hv hn h) rfl hx
    have hlen : (bs.drop a).length = bs.length - a := List.length_drop ..
    have hin : ∀ w2, Below W.heap.size W w2 → ∀ (m c : Nat), m ≤ bs.length - a → m ≤ c → c ≤ maxLen → BytesIn W.heap.size w2 (.slice (some (b.add a)) m c) ((bs.drop a).take m) := fun w2 h m c hm1 hm2 hm3 => by
      have hlt : ((bs.drop a).take m).length = m := by rw [List.length_take, hlen]; omega
      refine ⟨by rw [bcells_length, Nat.mul_one], some (b.add a), c, by rw [hlt], by omega, hm3, fun e => (by cases e), fun b' e => ?_⟩
      cases e
      have hcell : ∀ j u, (bcells ((bs.drop a).take m))[j]? = some u → w2.cell? ((b.add a).add j) = some u := fun j u hu => by
        have hj := (List.getElem?_eq_some_iff.1 hu).1
        rw [bcells_length, hlt] at hj
        obtain ⟨x, hx⟩ : ∃ x, (bs.drop a)[j]? = some x := ⟨_, List.getElem?_eq_getElem (by rw [hlen]; omega)⟩
        rw [hrest w2 h j x hx]
        have : ((bs.drop a).take m)[j]? = some x := by rw [List.getElem?_take_of_lt hj, hx]
        simp only [bcells, List.getElem?_map, this, Option.map_some] at hu
        exact hu
      refine ⟨fun hp => ?_, hcell⟩
      obtain ⟨_, ao', cap', hv', _, _, _, h4⟩ := hv
      cases hv'
      have := (h4 b rfl).1 (by rw [bcells_length]; rw [bcells_length, hlt] at hp; omega)
      rw [addr_block]
      omega
    generalize hrs : bs.drop a = rest at hR hrest hlen hin
    have HR := Lib.hid hR
    have HC := Lib.hid hrest
    have HI := Lib.hid hin
    have HL := Lib.hid hlen
    have hb0 : Below W.heap.size W W.drew := ⟨rfl, rfl, rfl, Nat.le_refl _, fun _ _ => rfl⟩
    have HB := Lib.hid hb0
    have hale : a ≤ bs.length := by omega
    clear hR hrest hin hlen hv hb0 hrs c0 c1 hao
    go_enter Tryd.func44, Tryd.ntmps44
    go_wp2
    go_region
    go_wp2
    go_loopw [7, 27] (fun s7 s27 wr => ∃ (u k : Nat), s7 = .int .u64 (u : Int) ∧ s27 = .int .i64 (k : Int) ∧ GetAt rest k u ∧ Hid (Below W.heap.size W wr)) (fun _ s27 _ => (bs.length - a) - (intOf s27).toNat)
    case atStart => exact ⟨0, 0, rfl, rfl, ⟨by omega, by omega, by omega, rfl⟩, HB⟩
    case round =>
      obtain ⟨u, k, rfl, rfl, hG, hb'⟩ := hrel
      by_cases hlt : k < bs.length - a
      · obtain ⟨c, hc⟩ : ∃ c, rest[k]? = some c := ⟨_, List.getElem?_eq_getElem (by rw [HL.out]; exact hlt)⟩
        have hcell := HC.out wr hb'.out k c hc
        by_cases hk : k = 10
        · have hkb : ((k : Int) == 10) = true := by simp [hk]
          have e := HR.out
          rw [getAt, if_pos (by have := hG.led; omega)] at e
          cases e
          clear HR hG hc hk
          go_wp2
          go_ret3
          exact ⟨rfl, hb'.out⟩
        · have hkb : ((k : Int) == 10) = false := beq_eq_false_iff_ne.2 (by omega)
          have hten := hG.ten
          obtain ⟨pre, hpre⟩ : ∃ pre, pre = rest.take k := ⟨_, rfl⟩
          have hpl : pre.length = k := by rw [hpre, List.length_take]; have := hG.le; omega
          have hval := hG.val
          rw [← hpre] at hval
          have hor := or_next_int pre c (by omega)
          rw [← hval] at hor
          rw [hpl, Nat.mul_comm 7 k] at hor
          obtain ⟨d, hd⟩ : ∃ d : Nat, d = c.toNat % 128 := ⟨_, rfl⟩
          have hand := and127 c
          rw [← hd] at hand hor
          have hdlt : d < 128 := by rw [hd]; exact Nat.mod_lt _ (by decide)
          have hw1 : IntKind.u64.wrap (d : Int) = (d : Int) := by rw [IntKind.wrap_u64]; omega
          obtain ⟨e, he⟩ : ∃ e : Nat, e = d * 2 ^ (k * 7) % 18446744073709551616 := ⟨_, rfl⟩
          have hw2 : IntKind.u64.wrap ((d : Int) * 2 ^ (k * 7)) = (e : Int) := by
            rw [IntKind.wrap_u64, he]
            simp
          rw [← he] at hor
          obtain ⟨u2, hu2⟩ : ∃ u2, u2 = vval (pre ++ [c]) % 18446744073709551616 := ⟨_, rfl⟩
          rw [← hu2] at hor
          have hpc : pre ++ [c] = rest.take (k + 1) := by rw [List.take_add_one, ← hpre, hc]; rfl
          rw [hpc] at hu2
          by_cases hge : 128 ≤ c.toNat
          · have hgb : decide (128 ≤ (c.toNat : Int)) = true := decide_eq_true (by omega)
            have hG2 : GetAt rest (k + 1) u2 := ⟨by rw [HL.out]; omega, by omega, lead_more rest k c hG.led hc hge, hu2⟩
            have hG2' := Lib.hid hG2
            have hge' := Lib.hid hge
            generalize (c.toNat : Int) = ci at hcell hand hgb
            clear hG hG2 hc hpre hpl hval hd hdlt he hu2 hpc hge HR hk
            go_wp2
            go_roundw
            case rel => exact ⟨u2, k + 1, rfl, by simp, hG2'.out, hb'⟩
            case measure => simp [intOf]; omega
          · have hgb : decide (128 ≤ (c.toNat : Int)) = false := decide_eq_false (by omega)
            have hld := lead_stop rest k c hG.led hc (by omega)
            have e := HR.out
            rw [getAt, hld, if_neg (by omega), if_neg (by rw [HL.out]; omega), ← hu2] at e
            have hult : u2 < 18446744073709551616 := by rw [hu2]; exact Nat.mod_lt _ (by decide)
            have hun := unzz_bits u2 hult
            rw [wrap64_id (n := (u2 : Int) / 2) (by omega) (by omega)] at hun
            have hrg := unzz_range hult
            have hpieces := fun w => pieces_any w (unzz u2) hrg.1 hrg.2
            simp only [zz_unzz] at hpieces
            obtain ⟨nn, hnn⟩ : ∃ nn, nn = unzz u2 := ⟨_, rfl⟩
            rw [← hnn] at hun hpieces e
            have E := Lib.hid e
            have HP := Lib.hid hpieces
            have h10 := vput_len10 hult
            generalize (c.toNat : Int) = ci at hcell hand hgb
            clear hG hc hpre hpl hval hd hdlt he hu2 hpc hge HR hk hld e hrg hpieces hnn
            go_wp2_with fail
            refine (HP.out _).mono ?_
            rintro ee w1 ⟨⟨cs, rfl, hcs⟩, hb1⟩
            have hl10 : cs.toList.length = 10 := by rw [hcs, List.length_append, bcells_length, List.length_replicate]; omega
            obtain ⟨cl⟩ := cs
            simp only at hcs hl10
            match cl, hl10 with
            | [c0, c1, c2, c3, c4, c5, c6, c7, c8, c9], _ =>
            have hin : ∀ u ∈ [c0, c1, c2, c3, c4, c5, c6, c7, c8, c9], ∃ x : Int, u = .int .u8 x := by rw [hcs]; exact ten_ints _ _
            obtain ⟨x0, rfl⟩ := hin c0 (by simp)
            obtain ⟨x1, rfl⟩ := hin c1 (by simp)
            obtain ⟨x2, rfl⟩ := hin c2 (by simp)
            obtain ⟨x3, rfl⟩ := hin c3 (by simp)
            obtain ⟨x4, rfl⟩ := hin c4 (by simp)
            obtain ⟨x5, rfl⟩ := hin c5 (by simp)
            obtain ⟨x6, rfl⟩ := hin c6 (by simp)
            obtain ⟨x7, rfl⟩ := hin c7 (by simp)
            obtain ⟨x8, rfl⟩ := hin c8 (by simp)
            obtain ⟨x9, rfl⟩ := hin c9 (by simp)
            clear hin
            have hcs' := Lib.hid hcs
            have hb1' := Lib.hid hb1
            clear hcs hb1 HP
            go_wp2
            have hB := Blk.new w1 69 #[.int .u8 x0, .int .u8 x1, .int .u8 x2, .int .u8 x3, .int .u8 x4, .int .u8 x5, .int .u8 x6, .int .u8 x7, .int .u8 x8, .int .u8 x9]
            have hb2 := (hb'.out.trans (hb1'.out.mono hb'.out.size)).alloc (Nat.le_trans hb'.out.size hb1'.out.size) (.cells #[.int .u8 x0, .int .u8 x1, .int .u8 x2, .int .u8 x3, .int .u8 x4, .int .u8 x5, .int .u8 x6, .int .u8 x7, .int .u8 x8, .int .u8 x9] 69)
            generalize w1.alloc (.cells #[.int .u8 x0, .int .u8 x1, .int .u8 x2, .int .u8 x3, .int .u8 x4, .int .u8 x5, .int .u8 x6, .int .u8 x7, .int .u8 x8, .int .u8 x9] 69) = w2 at hB hb2 ⊢
            have hle : W.heap.size ≤ w2.heap.size := hb2.size
            have hb3 : Below W.heap.size W w2.drew := ⟨hb2.os, hb2.tape, hb2.output, hb2.size, hb2.block⟩
            have heq : Calls Tryd.prog 47 #[.slice (some ⟨w1.heap.size, 0, none⟩) (vput u2).length 10, .slice (some (b.add a)) (k + 1) (cap - a)] w2.drew fun e W' => e = .returned (.bool (decide (vput u2 = rest.take (k + 1)))) ∧ Below w2.drew.heap.size w2.drew W' := by
              have hI := (HI.out w2.drew hb3 (k + 1) (cap - a) (by omega) (by omega) (by omega)).up (m := w2.drew.heap.size) hle
              have hlt : (rest.take (k + 1)).length = k + 1 := by rw [List.length_take, HL.out]; omega
              have hY : BytesIn w2.drew.heap.size w2.drew (.slice (some ⟨w1.heap.size, 0, none⟩) (vput u2).length 10) (vput u2) := by
                refine ⟨by rw [bcells_length, Nat.mul_one], some ⟨w1.heap.size, 0, none⟩, 10, rfl, h10, by decide, fun e => (by cases e), fun b' e => ?_⟩
                cases e
                refine ⟨fun _ => hB.lt, fun j u hu => ?_⟩
                have hj := (List.getElem?_eq_some_iff.1 hu).1
                rw [addr_add_lit, Nat.zero_add]
                have hc : w2.drew.cell? ⟨w1.heap.size, j, none⟩ = w2.cell? ⟨w1.heap.size, j, none⟩ := rfl
                rw [hc, hB.cell j, ← Array.getElem?_toList]
                show [Value.int .u8 x0, Value.int .u8 x1, Value.int .u8 x2, Value.int .u8 x3, Value.int .u8 x4, Value.int .u8 x5, Value.int .u8 x6, Value.int .u8 x7, Value.int .u8 x8, Value.int .u8 x9][j]? = _
                rw [hcs'.out, List.getElem?_append_left hj, hu]
              exact equal_any w2.drew _ _ (vput u2) (rest.take (k + 1)) w2.drew.heap.size (Nat.le_refl _) hY hI (by omega)
            generalize hrr : decide (vput u2 = rest.take (k + 1)) = rr at heq
            have heq' := Lib.hid heq
            have hb3' := Lib.hid hb3
            have hrr' := Lib.hid hrr
            have hlen10 : ((vput u2).length : Int) ≤ 10 := by omega
            have hwk : IntKind.i64.wrap ((k : Int) + 1) = (k : Int) + 1 := by rw [i64_wrap, wrap64_id (by omega) (by omega)]
            have hkz : (0 : Int) ≤ (k : Int) + 1 := by omega
            have hkle : (k : Int) + 1 ≤ ((cap - a : Nat) : Int) := by omega
            have hkle2 : k + 1 ≤ cap - a := by omega
            clear heq hb3 hrr hB hcs' HI HL HC hb2 HB
            generalize (vput u2).length = lenp at heq' hlen10 h10
            cases rr
            · have e2 := E.out
              rw [if_neg (of_decide_eq_false hrr'.out)] at e2
              cases e2
              clear E
              go_region_law (go_simp; go_at_call 47; refine heq'.out.mono ?_; rintro ee w4 ⟨rfl, hb4⟩; have hb4' := Lib.hid (hb3'.out.trans (hb4.mono hb3'.out.size)); clear hb4)
              go_wp2
              go_ret3
              exact ⟨rfl, hb4'.out⟩
            · have e2 := E.out
              rw [if_pos (of_decide_eq_true hrr'.out)] at e2
              simp only [Prod.mk.injEq] at e2
              obtain ⟨e3, e4, e5⟩ := e2
              have e4b : r2 = (a : Int) + (k : Int) + 1 := by omega
              have e4' := Lib.hid e4b
              subst e3 e5
              clear E e4 e4b
              go_region_law (go_simp; go_at_call 47; refine heq'.out.mono ?_; rintro ee w4 ⟨rfl, hb4⟩; have hb4' := Lib.hid (hb3'.out.trans (hb4.mono hb3'.out.size)); clear hb4)
              go_wp2
              go_ret3
              refine ⟨?_, hb4'.out⟩
              rw [e4'.out]
              rfl
      · obtain rfl : k = bs.length - a := by have := hG.le; have := HL.out; omega
        have e := HR.out
        have hL := HL.out
        have hll := lead_le rest
        have hled := hG.led
        by_cases h10 : 10 ≤ bs.length - a
        · rw [getAt, if_pos (by omega)] at e
          cases e
          clear HR hG hled
          go_wp2
          go_ret3
          exact ⟨rfl, hb'.out⟩
        · rw [getAt, if_neg (by omega), if_pos (by omega)] at e
          cases e
          clear HR hG hled
          go_wp2
          go_ret3
          exact ⟨rfl, hb'.out⟩

def numL (bs : List UInt8) (at_ high bad : Int) : Int × Int × Int :=
  if (getL bs at_).2.2 ≠ 0 then (0, 0, (getL bs at_).2.2) else if (getL bs at_).1 < 0 ∨ high < (getL bs at_).1 then (0, 0, bad) else ((getL bs at_).1, (getL bs at_).2.1, 0)

set_option maxRecDepth 100000 in
set_option maxHeartbeats 2000000 in
theorem number_any (W : World) (v : Value) (bs : List UInt8) (at_ high bad : Int) (n : Nat) (hn : n ≤ W.heap.size) (hv : BytesIn n W v bs) (hl : bs.length ≤ 200000000000000) (hbad : bad ≠ 0) :
    Calls Tryd.prog 37 #[v, .int .i64 at_, .int .i64 high, .int .i64 bad] W fun e W' => e = .returned (.tuple #[.int .i64 (numL bs at_ high bad).1, .int .i64 (numL bs at_ high bad).2.1, .int .i64 (numL bs at_ high bad).2.2]) ∧ Below W.heap.size W W' := by
  obtain ⟨ao, cap, rfl, hcap, hm, hao⟩ := SliceIn.form hv
  have hg := bget_any W _ bs at_ n hn hv hl
  obtain ⟨⟨r1, r2, r3⟩, hR⟩ : ∃ R, R = numL bs at_ high bad := ⟨_, rfl⟩
  rw [← hR]
  rw [numL] at hR
  generalize getL bs at_ = g at hg hR
  obtain ⟨g1, g2, g3⟩ := g
  dsimp only at hg hR ⊢
  have hbad1 : (bad == 0) = false := beq_eq_false_iff_ne.2 hbad
  have hbad2 : (bad != 0) = true := by simp [bne, hbad1]
  have hg' := Lib.hid hg
  clear hg hv
  by_cases hw : g3 = 0
  · rw [if_neg (by simp [hw])] at hR
    have w1 : (g3 == 0) = true := by simp [hw]
    have w2 : (g3 != 0) = false := by simp [hw]
    by_cases h0 : g1 < 0
    · rw [if_pos (.inl h0)] at hR
      cases hR
      have d0 : decide (g1 < 0) = true := decide_eq_true h0
      clear hw h0
      go_enter Tryd.func37, Tryd.ntmps37
      go_wp2_with (go_at_call 44; refine hg'.out.mono ?_; rintro e w2 ⟨rfl, hb2⟩)
      go_ret3
      exact ⟨rfl, ‹_›⟩
    have d0 : decide (g1 < 0) = false := decide_eq_false h0
    by_cases h1 : high < g1
    · rw [if_pos (.inr h1)] at hR
      cases hR
      have d1 : decide (high < g1) = true := decide_eq_true h1
      clear hw h0 h1
      go_enter Tryd.func37, Tryd.ntmps37
      go_wp2_with (go_at_call 44; refine hg'.out.mono ?_; rintro e w2 ⟨rfl, hb2⟩)
      go_ret3
      exact ⟨rfl, ‹_›⟩
    have d1 : decide (high < g1) = false := decide_eq_false h1
    rw [if_neg (by omega)] at hR
    cases hR
    clear hw h0 h1
    go_enter Tryd.func37, Tryd.ntmps37
    go_wp2_with (go_at_call 44; refine hg'.out.mono ?_; rintro e w2 ⟨rfl, hb2⟩)
    go_ret3
    exact ⟨rfl, ‹_›⟩
  · rw [if_pos hw] at hR
    cases hR
    have w1 : (r3 == 0) = false := beq_eq_false_iff_ne.2 hw
    have w2 : (r3 != 0) = true := by simp [bne, w1]
    clear hw
    go_enter Tryd.func37, Tryd.ntmps37
    go_wp2_with (go_at_call 44; refine hg'.out.mono ?_; rintro e w2 ⟨rfl, hb2⟩)
    go_ret3
    exact ⟨rfl, ‹_›⟩
end Go.Proofs.YtmlcififmjpcpaaDoor
