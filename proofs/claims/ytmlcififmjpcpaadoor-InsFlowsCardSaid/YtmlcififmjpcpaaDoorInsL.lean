/-
  The document's number back out of bytes.
-/
import Derived.Test.YtmlcififmjpcpaaDoorInsK
namespace Go.Proofs.YtmlcififmjpcpaaDoor
open Go.RowKit
set_option linter.unusedVariables false
set_option linter.unusedSimpArgs false

attribute [local go_sem] Oper.semAt_some

theorem bytes_sub {n : Nat} {W : World} {b : Addr} {cap : Nat} {bs : List UInt8} (h : BytesIn n W (.slice (some b) bs.length cap) bs) (a m c : Nat) (h1 : m ≤ bs.length - a) (h2 : m ≤ c) (h3 : c ≤ maxLen) : BytesIn n W (.slice (some (b.add a)) m c) ((bs.drop a).take m) := by
  have hlt : ((bs.drop a).take m).length = m := by rw [List.length_take, List.length_drop]; omega
  refine ⟨by rw [bcells_length, Nat.mul_one], some (b.add a), c, by rw [hlt], by omega, h3, fun e => (by cases e), fun b' e => ?_⟩
  cases e
  have hcell : ∀ j u, (bcells ((bs.drop a).take m))[j]? = some u → W.cell? ((b.add a).add j) = some u := fun j u hu => by
    have hj := (List.getElem?_eq_some_iff.1 hu).1
    rw [bcells_length, hlt] at hj
    obtain ⟨x, hx⟩ : ∃ x, bs[a + j]? = some x := ⟨_, List.getElem?_eq_getElem (by omega)⟩
    have : ((bs.drop a).take m)[j]? = some x := by rw [List.getElem?_take_of_lt hj, List.getElem?_drop, hx]
    simp only [bcells, List.getElem?_map, this, Option.map_some] at hu
    rw [Go.Deep.add_add, byte_at h rfl hx]
    exact hu
  refine ⟨fun hp => ?_, hcell⟩
  rw [bcells_length, hlt] at hp
  obtain ⟨_, ao', cap', hv', _, _, _, h4⟩ := h
  cases hv'
  have := (h4 b rfl).1 (by rw [bcells_length]; omega)
  rw [addr_block]
  exact this

set_option maxRecDepth 100000 in
set_option maxHeartbeats 4000000 in
theorem rget_any (W : World) (v : Value) (bs : List UInt8) (at_ : Int) (n : Nat) (hn : n ≤ W.heap.size) (hv : BytesIn n W v bs) (hl : bs.length ≤ 200000000000000) :
    Calls Tryd.prog 38 #[v, .int .i64 at_] W fun e W' => e = .returned (.tuple #[.int .i64 (getL bs at_).1, .int .i64 (getL bs at_).2.1, .int .i64 (getL bs at_).2.2]) ∧ Below W.heap.size W W' := by
  obtain ⟨ao, cap, rfl, hcap, hm, hao⟩ := SliceIn.form hv
  obtain ⟨⟨r1, r2, r3⟩, hR⟩ : ∃ R, R = getL bs at_ := ⟨_, rfl⟩
  rw [← hR]
  dsimp only
  by_cases c0 : at_ < 0
  · rw [getL, if_pos (.inl c0)] at hR
    cases hR
    have h0 : decide (at_ < 0) = true := decide_eq_true c0
    clear hv c0
    go_enter Tryd.func38, Tryd.ntmps38
    go_wp2
    go_ret3
    exact ⟨rfl, Below.refl _ _⟩
  obtain ⟨a, rfl⟩ : ∃ a : Nat, at_ = a := ⟨at_.toNat, by omega⟩
  have h0 : decide ((a : Int) < 0) = false := decide_eq_false c0
  by_cases c1 : bs.length < a
  · rw [getL, if_pos (.inr (by omega))] at hR
    cases hR
    have h1 : decide (bs.length < a) = true := decide_eq_true c1
    clear hv c0
    go_enter Tryd.func38, Tryd.ntmps38
    go_wp2
    go_ret3
    exact ⟨rfl, Below.refl _ _⟩
  have h1 : decide (bs.length < a) = false := decide_eq_false c1
  have hale : a ≤ bs.length := by omega
  rw [getL, if_neg (by omega), Int.toNat_natCast] at hR
  have hrest : ∀ K, (bs.drop a)[K]? = bs[a + K]? := fun K => List.getElem?_drop ..
  have hlen : (bs.drop a).length = bs.length - a := List.length_drop ..
  generalize hrs : bs.drop a = rest at hR hrest hlen
  have HR := Lib.hid hR
  have HV := Lib.hid hv
  have HC := Lib.hid hrest
  have HL := Lib.hid hlen
  have HS := Lib.hid hrs
  have hb0 := Lib.hid (Below.refl W.heap.size W)
  clear hR hrest hlen hv hrs c0 c1
  go_enter Tryd.func38, Tryd.ntmps38
  go_wp2
  go_loopw [7] (fun s7 wr => ∃ K : Nat, s7 = .int .i64 (K : Int) ∧ a ≤ K ∧ K ≤ bs.length ∧ K ≤ a + 10 ∧ Hid (K - a ≤ lead rest) ∧ wr = W) (fun s7 _ => bs.length - (intOf s7).toNat)
  case atStart => exact ⟨a, rfl, Nat.le_refl _, hale, by omega, Lib.hid (by omega), rfl⟩
  case round =>
    obtain ⟨K, rfl, hK1, hK2, hK3, hld, rfl⟩ := hrel
    by_cases hlt : K < bs.length
    · obtain ⟨c, hc⟩ : ∃ c, bs[K]? = some c := ⟨_, List.getElem?_eq_getElem hlt⟩
      obtain ⟨b, _, hv1, _⟩ := SliceIn.some_ HV.out (by omega)
      cases hv1
      have hcell := byte_at HV.out rfl hc
      have hcr : rest[K - a]? = some c := by rw [HC.out, ← hc]; congr 1; omega
      by_cases hge : 128 ≤ c.toNat
      · have hgb : decide (128 ≤ (c.toNat : Int)) = true := decide_eq_true (by omega)
        by_cases h10 : K < a + 10
        · have h10b : decide ((K : Int) - (a : Int) < 10) = true := decide_eq_true (by omega)
          have hld2 := Lib.hid (lead_more rest (K - a) c hld.out hcr hge)
          generalize (c.toNat : Int) = ci at hcell hgb
          clear hc hcr hge
          go_wp2
          go_roundw
          case rel => exact ⟨K + 1, by simp, by omega, by omega, by omega, Lib.hid (by have := hld2.out; omega), trivial⟩
          case measure => simp [intOf]; omega
        · have h10b : decide ((K : Int) - (a : Int) < 10) = false := decide_eq_false (by omega)
          have h10c : decide (10 ≤ (K : Int) - (a : Int)) = true := decide_eq_true (by omega)
          have e := HR.out
          rw [getAt, if_pos (by have := hld.out; omega)] at e
          cases e
          generalize (c.toNat : Int) = ci at hcell hgb
          clear hc hcr hge HR
          go_wp2
          go_ret3
          exact ⟨rfl, hb0.out⟩
      · have hgb : decide (128 ≤ (c.toNat : Int)) = false := decide_eq_false (by omega)
        have hld2 := lead_stop rest (K - a) c hld.out hcr (by omega)
        by_cases h10 : K < a + 10
        · have h10c : decide (10 ≤ (K : Int) - (a : Int)) = false := decide_eq_false (by omega)
          have e := HR.out
          have hLl := HL.out
          rw [getAt, if_neg (by omega), if_neg (by omega), hld2] at e
          have E := Lib.hid e
          generalize (c.toNat : Int) = ci at hcell hgb
          clear hc hcr hge HR hld2 e hLl
          go_wp2
          go_loopw [8, 9] (fun s8 s9 wr2 => ∃ (u m : Nat) (p : Int), s8 = .int .u64 (u : Int) ∧ s9 = .int .i64 p ∧ p = (K : Int) - (m : Int) ∧ m ≤ K - a + 1 ∧ u < 18446744073709551616 ∧ Hid (u = vval ((rest.take (K - a + 1)).drop (K - a + 1 - m)) % 18446744073709551616) ∧ wr2 = wr) (fun _ s9 _ => (intOf s9 - (a : Int) + 1).toNat)
          case atStart =>
            refine ⟨0, 0, (K : Int), rfl, rfl, by omega, by omega, by omega, Lib.hid ?_, rfl⟩
            rw [Nat.sub_zero, List.drop_eq_nil_of_le (by rw [List.length_take]; omega)]
            rfl
          case round =>
            obtain ⟨u, m, p, rfl, rfl, hp, hm1, hu, hval, rfl⟩ := hrel
            by_cases hpa : (a : Int) ≤ p
            · obtain ⟨q, rfl⟩ : ∃ q : Nat, p = q := ⟨p.toNat, by omega⟩
              have hql : q < bs.length := by omega
              obtain ⟨c2, hc2⟩ : ∃ c2, bs[q]? = some c2 := ⟨_, List.getElem?_eq_getElem hql⟩
              have hcell2 := byte_at HV.out rfl hc2
              have hpb : decide (a ≤ q) = true := decide_eq_true (by omega)
              have hq1 : q - a = K - a - m := by omega
              have hstep : (u * 128 % 18446744073709551616 + c2.toNat % 128) % 18446744073709551616 = vval ((rest.take (K - a + 1)).drop (K - a + 1 - (m + 1))) % 18446744073709551616 := by
                have hd : (rest.take (K - a + 1)).drop (K - a + 1 - (m + 1)) = c2 :: (rest.take (K - a + 1)).drop (K - a + 1 - m) := by
                  have hg : (rest.take (K - a + 1))[K - a + 1 - (m + 1)]? = some c2 := by
                    rw [List.getElem?_take_of_lt (by omega), HC.out, ← hc2]
                    congr 1
                    omega
                  rw [drop_get hg]
                  congr 2
                  omega
                rw [hd, vval, hval.out]
                generalize vval ((rest.take (K - a + 1)).drop (K - a + 1 - m)) = X
                omega
              have hstep' := Lib.hid hstep
              have hc2lt := UInt8.toNat_lt c2
              have hp' := Lib.hid hp
              clear hstep hc2 hq1 hp
              generalize hci2 : c2.toNat = ci2 at hcell2 hstep' hc2lt
              go_wp2
              go_roundw
              case rel => 
                refine ⟨(u * 128 % 18446744073709551616 + ci2 % 128) % 18446744073709551616, m + 1, (q : Int) - 1, ?_, rfl, by have := hp'.out; omega, by have := hp'.out; omega, Nat.mod_lt _ (by decide), Lib.hid hstep'.out, trivial⟩
                rfl
              case measure => simp [intOf]; omega
            · obtain rfl : m = K - a + 1 := by omega
              have hpb : decide ((a : Int) ≤ p) = false := decide_eq_false hpa
              have hvl := hval.out
              rw [Nat.sub_self, List.drop_zero] at hvl
              have e := E.out
              rw [← hvl] at e
              have E2 := Lib.hid e
              have hp' := Lib.hid hp
              clear e hvl E hval hpa hp
              by_cases hodd : u % 2 = 1
              · have hob : ((u : Int) % 2 == 1) = true := beq_iff_eq.2 (by omega)
                have hun : -((u : Int) / 2) - 1 = unzz u := by rw [unzz, if_neg (by omega)]; congr 2
                have hrp := fun w => rput_any w (.slice none 0 0) [] (unzz u) 0 (SliceIn.nil _ _ _) (by simp) (unzz_range hu).1 (unzz_range hu).2
                simp only [List.nil_append, zz_unzz] at hrp
                have hcvs : ∀ w, Below wr.heap.size wr w → (convert 33 9 (.slice (some (b.add a)) (K + 1 - a) (cap - a))).run Tryd.prog w = .ok (.string ⟨(rest.take (K - a + 1)).toArray⟩) w := fun w h => by
                  have hq := run_string_of (bytes_sub (SliceIn.later HV.out hn h) a (K + 1 - a) (cap - a) (by omega) (by omega) (by omega))
                  rw [HS.out, show K + 1 - a = K - a + 1 by omega] at hq
                  rw [show K + 1 - a = K - a + 1 by omega]
                  exact hq
                have hdr : Below wr.heap.size wr wr.drew := ⟨rfl, rfl, rfl, Nat.le_refl _, fun _ _ => rfl⟩
                have hcv0 := hcvs _ hdr
                have hwk : IntKind.i64.wrap ((K : Int) + 1) = (K : Int) + 1 := by rw [i64_wrap, wrap64_id (by omega) (by omega)]
                have hk1 : (K : Int) + 1 ≤ (cap : Int) := by omega
                have hk2 : (a : Int) ≤ (K : Int) + 1 := by omega
                have hk3 : a ≤ K + 1 := by omega
                have hk5 : K + 1 ≤ cap := by omega
                have hk4 : ¬ cap = a := by omega
                have HRP := Lib.hid (hrp wr.drew)
                have HCV := Lib.hid hcvs
                have HDR := Lib.hid hdr
                have hes : ∀ x y : List UInt8, ((⟨x.toArray⟩ : ByteArray).toList == (⟨y.toArray⟩ : ByteArray).toList) = decide (x = y) := fun x y => by
                  rw [Lib.toList_data, Lib.toList_data]
                  simp only
                  by_cases h : x = y
                  · simp [h]
                  · rw [decide_eq_false h]; exact beq_eq_false_iff_ne.2 (by simpa using h)
                have hes' := hes (vput u) (rest.take (K - a + 1))
                have hes2 : (vput u == rest.take (K - a + 1)) = decide (vput u = rest.take (K - a + 1)) := by
                  by_cases h : vput u = rest.take (K - a + 1)
                  · simp [h]
                  · rw [decide_eq_false h]; exact beq_eq_false_iff_ne.2 h
                generalize unzz u = nn at hun HRP E2
                generalize hrr : decide (vput u = rest.take (K - a + 1)) = rr at hes' hes2
                have HRR := Lib.hid hrr
                generalize vput u = bu at HRP hes' hes2 HRR E2
                generalize rest.take (K - a + 1) = br at hes' hes2 HRR E2 HCV hcv0
                clear hrp hcvs hdr hes hrr
                cases rr
                · have e2 := E2.out
                  rw [if_neg (of_decide_eq_false HRR.out)] at e2
                  cases e2
                  clear E2 HRR
                  go_wp2_with fail
                  go_region_law (go_simp; go_at_call 36; refine HRP.out.mono ?_; rintro ee w3 ⟨v3, rfl, hv3, hb3⟩; have hcv1 := run_string_of hv3; have hcv2 := HCV.out _ (HDR.out.trans (hb3.mono HDR.out.size)); have HB3 := Lib.hid (HDR.out.trans (hb3.mono HDR.out.size)); clear hb3 hv3)
                  all_goals
                    go_wp2
                    go_ret3
                    exact ⟨rfl, HB3.out⟩
                · have e2 := E2.out
                  rw [if_pos (of_decide_eq_true HRR.out)] at e2
                  simp only [Prod.mk.injEq] at e2
                  obtain ⟨e3, e4, e5⟩ := e2
                  have e4b : r2 = (K : Int) + 1 := by omega
                  have e4' := Lib.hid e4b
                  subst e3 e5
                  clear E2 HRR e4 e4b
                  go_wp2_with fail
                  go_region_law (go_simp; go_at_call 36; refine HRP.out.mono ?_; rintro ee w3 ⟨v3, rfl, hv3, hb3⟩; have hcv1 := run_string_of hv3; have hcv2 := HCV.out _ (HDR.out.trans (hb3.mono HDR.out.size)); have HB3 := Lib.hid (HDR.out.trans (hb3.mono HDR.out.size)); clear hb3 hv3)
                  all_goals
                    go_wp2
                    go_ret3
                    refine ⟨?_, HB3.out⟩
                    rw [e4'.out]
                    rfl
              · have hob : ((u : Int) % 2 == 1) = false := beq_eq_false_iff_ne.2 (by omega)
                have hun : (u : Int) / 2 = unzz u := by rw [unzz, if_pos (by omega)]; omega
                have hrp := fun w => rput_any w (.slice none 0 0) [] (unzz u) 0 (SliceIn.nil _ _ _) (by simp) (unzz_range hu).1 (unzz_range hu).2
                simp only [List.nil_append, zz_unzz] at hrp
                have hcvs : ∀ w, Below wr.heap.size wr w → (convert 33 9 (.slice (some (b.add a)) (K + 1 - a) (cap - a))).run Tryd.prog w = .ok (.string ⟨(rest.take (K - a + 1)).toArray⟩) w := fun w h => by
                  have hq := run_string_of (bytes_sub (SliceIn.later HV.out hn h) a (K + 1 - a) (cap - a) (by omega) (by omega) (by omega))
                  rw [HS.out, show K + 1 - a = K - a + 1 by omega] at hq
                  rw [show K + 1 - a = K - a + 1 by omega]
                  exact hq
                have hdr : Below wr.heap.size wr wr.drew := ⟨rfl, rfl, rfl, Nat.le_refl _, fun _ _ => rfl⟩
                have hcv0 := hcvs _ hdr
                have hwk : IntKind.i64.wrap ((K : Int) + 1) = (K : Int) + 1 := by rw [i64_wrap, wrap64_id (by omega) (by omega)]
                have hk1 : (K : Int) + 1 ≤ (cap : Int) := by omega
                have hk2 : (a : Int) ≤ (K : Int) + 1 := by omega
                have hk3 : a ≤ K + 1 := by omega
                have hk5 : K + 1 ≤ cap := by omega
                have hk4 : ¬ cap = a := by omega
                have HRP := Lib.hid (hrp wr.drew)
                have HCV := Lib.hid hcvs
                have HDR := Lib.hid hdr
                have hes : ∀ x y : List UInt8, ((⟨x.toArray⟩ : ByteArray).toList == (⟨y.toArray⟩ : ByteArray).toList) = decide (x = y) := fun x y => by
                  rw [Lib.toList_data, Lib.toList_data]
                  simp only
                  by_cases h : x = y
                  · simp [h]
                  · rw [decide_eq_false h]; exact beq_eq_false_iff_ne.2 (by simpa using h)
                have hes' := hes (vput u) (rest.take (K - a + 1))
                have hes2 : (vput u == rest.take (K - a + 1)) = decide (vput u = rest.take (K - a + 1)) := by
                  by_cases h : vput u = rest.take (K - a + 1)
                  · simp [h]
                  · rw [decide_eq_false h]; exact beq_eq_false_iff_ne.2 h
                generalize unzz u = nn at hun HRP E2
                generalize hrr : decide (vput u = rest.take (K - a + 1)) = rr at hes' hes2
                have HRR := Lib.hid hrr
                generalize vput u = bu at HRP hes' hes2 HRR E2
                generalize rest.take (K - a + 1) = br at hes' hes2 HRR E2 HCV hcv0
                clear hrp hcvs hdr hes hrr
                cases rr
                · have e2 := E2.out
                  rw [if_neg (of_decide_eq_false HRR.out)] at e2
                  cases e2
                  clear E2 HRR
                  go_wp2_with fail
                  go_region_law (go_simp; go_at_call 36; refine HRP.out.mono ?_; rintro ee w3 ⟨v3, rfl, hv3, hb3⟩; have hcv1 := run_string_of hv3; have hcv2 := HCV.out _ (HDR.out.trans (hb3.mono HDR.out.size)); have HB3 := Lib.hid (HDR.out.trans (hb3.mono HDR.out.size)); clear hb3 hv3)
                  all_goals
                    go_wp2
                    go_ret3
                    exact ⟨rfl, HB3.out⟩
                · have e2 := E2.out
                  rw [if_pos (of_decide_eq_true HRR.out)] at e2
                  simp only [Prod.mk.injEq] at e2
                  obtain ⟨e3, e4, e5⟩ := e2
                  have e4b : r2 = (K : Int) + 1 := by omega
                  have e4' := Lib.hid e4b
                  subst e3 e5
                  clear E2 HRR e4 e4b
                  go_wp2_with fail
                  go_region_law (go_simp; go_at_call 36; refine HRP.out.mono ?_; rintro ee w3 ⟨v3, rfl, hv3, hb3⟩; have hcv1 := run_string_of hv3; have hcv2 := HCV.out _ (HDR.out.trans (hb3.mono HDR.out.size)); have HB3 := Lib.hid (HDR.out.trans (hb3.mono HDR.out.size)); clear hb3 hv3)
                  all_goals
                    go_wp2
                    go_ret3
                    refine ⟨?_, HB3.out⟩
                    rw [e4'.out]
                    rfl
        · have h10c : decide (10 ≤ (K : Int) - (a : Int)) = true := decide_eq_true (by omega)
          have e := HR.out
          rw [getAt, if_pos (by omega)] at e
          cases e
          generalize (c.toNat : Int) = ci at hcell hgb
          clear hc hcr hge HR hld2
          go_wp2
          go_ret3
          exact ⟨rfl, hb0.out⟩
    · obtain rfl : K = bs.length := by omega
      have hle := lead_le rest
      have hlr : lead rest = bs.length - a := by have := HL.out; have := hld.out; omega
      have e := HR.out
      by_cases h10 : 10 ≤ bs.length - a
      · have h10c : decide (10 ≤ (bs.length : Int) - (a : Int)) = true := decide_eq_true (by omega)
        rw [getAt, if_pos (by omega)] at e
        cases e
        clear HR hle hlr
        go_wp2
        go_ret3
        exact ⟨rfl, hb0.out⟩
      · have h10c : decide (10 ≤ (bs.length : Int) - (a : Int)) = false := decide_eq_false (by omega)
        rw [getAt, if_neg (by omega), if_pos (by have := HL.out; omega)] at e
        cases e
        clear HR hle hlr
        go_wp2
        go_ret3
        exact ⟨rfl, hb0.out⟩
end Go.Proofs.YtmlcififmjpcpaaDoor
