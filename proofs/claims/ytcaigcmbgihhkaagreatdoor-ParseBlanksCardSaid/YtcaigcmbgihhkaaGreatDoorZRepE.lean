/-
  Part of a proof: RepE, RepF, RepG.
-/
import Derived.Test.YtcaigcmbgihhkaaGreatDoorZRepA
import Derived.Test.YtcaigcmbgihhkaaGreatDoorZRef
import Derived.Test.YtcaigcmbgihhkaaGreatDoorZShelfB
import Derived.Test.YtcaigcmbgihhkaaGreatDoorZMem
import Derived.Deep.DeepCutAuto
import Derived.StillTailTactics
import Derived.Laws.CopyOwn
import Derived.Laws.MakeOwn
import Derived.Deep.QuietTactic
import Derived.BigQuiet
import Derived.Deep.RegionLaw
import Derived.IntWalk
namespace Go.Proofs.YtcaigcmbgihhkaaGreatDoor
open Go Go.RowKit
set_option linter.unusedVariables false
set_option linter.unusedSimpArgs false
def qb (c : UInt8) : Bs := (repP 0 c.toNat).getD [c]
def qL (l : Bs) : Bs := l.flatMap qb
def spN (l : Bs) : Nat := (l.filter fun c => (repP 0 c.toNat).isSome).length
theorem repP0 (c : Nat) : repP 0 c = if c = 10 then some [92, 110] else if c = 9 then some [92, 116] else if c = 34 then some [92, 34] else if c = 92 then some [92, 92] else none := by
  unfold repP repD
  simp only [List.drop_zero, List.find?_cons, List.find?_nil]
  by_cases h1 : c = 10
  · subst h1; rfl
  · rw [if_neg h1, show (10 == c) = false from beq_eq_false_iff_ne.2 (fun e => h1 e.symm)]
    by_cases h2 : c = 9
    · subst h2; rfl
    · rw [if_neg h2, show (9 == c) = false from beq_eq_false_iff_ne.2 (fun e => h2 e.symm)]
      by_cases h3 : c = 34
      · subst h3; rfl
      · rw [if_neg h3, show (34 == c) = false from beq_eq_false_iff_ne.2 (fun e => h3 e.symm)]
        by_cases h4 : c = 92
        · subst h4; rfl
        · rw [if_neg h4, show (92 == c) = false from beq_eq_false_iff_ne.2 (fun e => h4 e.symm)]; rfl
theorem repP_two {c : Nat} {bs : List UInt8} (h : repP 0 c = some bs) : bs.length = 2 := by
  rw [repP0] at h
  repeat' split at h
  all_goals first | (cases h; rfl) | cases h
theorem qb_len (c : UInt8) : (qb c).length = 1 + if (repP 0 c.toNat).isSome then 1 else 0 := by
  unfold qb
  cases h : repP 0 c.toNat with
  | none => rfl
  | some bs => simp [repP_two h]
theorem spN_cons (c : UInt8) (l : Bs) : spN (c :: l) = spN l + if (repP 0 c.toNat).isSome then 1 else 0 := by
  unfold spN
  rw [List.filter_cons]
  split <;> simp_all
theorem qL_cons (c : UInt8) (l : Bs) : qL (c :: l) = qb c ++ qL l := rfl
theorem qL_append (a b : Bs) : qL (a ++ b) = qL a ++ qL b := by simp [qL]
theorem spN_append (a b : Bs) : spN (a ++ b) = spN a + spN b := by simp [spN]
theorem qL_len : ∀ (l : Bs), (qL l).length = l.length + spN l
  | [] => rfl
  | c :: l => by
    rw [qL_cons, List.length_append, qL_len l, qb_len, spN_cons, List.length_cons]
    omega
theorem spN_le : ∀ (l : Bs), spN l ≤ l.length := fun l => List.length_filter_le _ _
theorem qL_same : ∀ (l : Bs), spN l = 0 → qL l = l
  | [], _ => rfl
  | c :: l, h => by
    rw [spN_cons] at h
    rw [qL_cons, qL_same l (by omega)]
    have : (repP 0 c.toNat).isSome = false := by
      cases hh : (repP 0 c.toNat).isSome with
      | false => rfl
      | true => rw [hh] at h; simp at h
    unfold qb
    rw [Option.isSome_eq_false_iff, Option.isNone_iff_eq_none] at this
    rw [this]
    rfl
theorem spN_counts : ∀ (l : Bs), spN l = l.count 92 + l.count 34 + l.count 9 + l.count 10
  | [] => rfl
  | c :: l => by
    rw [spN_cons, spN_counts l]
    simp only [List.count_cons, repP0, beq_iff_eq]
    have e : ∀ k : UInt8, (c = k) ↔ c.toNat = k.toNat := fun k => ⟨fun h => by rw [h], fun h => UInt8.toNat_inj.1 h⟩
    have i : ∀ k : UInt8, (if c = k then 1 else 0 : Nat) = if c.toNat = k.toNat then 1 else 0 := fun k => by
      by_cases h : c = k
      · rw [if_pos h, if_pos ((e k).1 h)]
      · rw [if_neg h, if_neg (fun h' => h ((e k).2 h'))]
    rw [i 92, i 34, i 9, i 10]
    simp only [UInt8.reduceToNat]
    by_cases h1 : c.toNat = 10
    · simp [h1]; omega
    · by_cases h2 : c.toNat = 9
      · simp [h2]; omega
      · by_cases h3 : c.toNat = 34
        · simp [h3]; omega
        · by_cases h4 : c.toNat = 92
          · simp [h4]; omega
          · simp [h1, h2, h3, h4]
def repX : List UInt8 := [92, 34, 9, 10]
def repS (l : Bs) (k : Nat) : Nat := ((repX.take k).map fun c => l.count c).sum
theorem repS_four (l : Bs) : repS l 4 = spN l := by rw [spN_counts]; simp [repS, repX]; omega
theorem repS_succ (l : Bs) {k : Nat} {c : UInt8} (h : repX[k]? = some c) : repS l (k + 1) = repS l k + l.count c := by
  unfold repS
  rw [List.take_add_one, h]
  simp
theorem repX_get {k : Nat} (h : k < 4) : ∃ c, repX[k]? = some c ∧ (repP 0 c.toNat).isSome := by
  rcases k with _ | _ | _ | _ | k
  · exact ⟨92, rfl, rfl⟩
  · exact ⟨34, rfl, rfl⟩
  · exact ⟨9, rfl, rfl⟩
  · exact ⟨10, rfl, rfl⟩
  · omega
theorem repS_le (l : Bs) (k : Nat) : repS l k ≤ 4 * l.length := by
  have h : ∀ c : UInt8, l.count c ≤ l.length := fun c => List.count_le_length
  have : ∀ (x : List UInt8), (x.map fun c => l.count c).sum ≤ x.length * l.length := by
    intro x
    induction x with
    | nil => simp
    | cons a r ih => simp only [List.map_cons, List.sum_cons, List.length_cons, Nat.add_mul]; have := h a; omega
  have h2 := this (repX.take k)
  have h3 : (repX.take k).length ≤ 4 := List.length_take_le' _ _
  exact Nat.le_trans h2 (Nat.mul_le_mul_right _ h3)
structure RepRd (W : World) (R B : Nat) : Prop where
  lt : R < W.heap.size ∧ B < W.heap.size
  names : W.cell? ⟨B, 256, none⟩ = some (.slice (some ⟨R, 0, none⟩) 4 4)
  str : ∀ k c, repX[k]? = some c → W.cell? ⟨R, k, none⟩ = some (.string ⟨#[c]⟩)
  no : ∀ c, c < 256 → repP 0 c = none → W.cell? ⟨B, c, none⟩ = some (.slice none 0 0)
  yes : ∀ c bs, c < 256 → repP 0 c = some bs → ∃ g cap, W.cell? ⟨B, c, none⟩ = some (.slice (some ⟨g, 0, none⟩) 2 cap) ∧ g < W.heap.size ∧ 2 ≤ cap ∧ cap ≤ maxLen ∧ ∀ j b, bs[j]? = some b → W.cell? ⟨g, j, none⟩ = some (.int .u8 (b.toNat : Int))
theorem RepRd.of {W : World} {R B : Nat} (h : RepIs W R B 0) : RepRd W R B := by
  obtain ⟨cs, h1, h2, h3, h4, h5, h6⟩ := h
  have hB := h1.lt
  refine ⟨⟨by omega, hB⟩, by rw [h1.cell]; exact h4, fun k c hk => ?_, fun c hc hn => ?_, fun c bs hc hs => ?_⟩
  · obtain ⟨a1, ⟨e, _⟩ | ⟨g, cap, cur, a2, a3, a4, a5, a6, a7, a8⟩⟩ := h6
    · cases e
    · cases a2
      have hc : W.cell? ⟨R, k, none⟩ = cur[k]? := by simp [World.cell?, show W.heap[R]? = _ from a4]
      have hk4 : k < 4 := (List.getElem?_eq_some_iff.1 hk).1
      rw [hc, take_get a8 k (by omega)]
      rcases k with _ | _ | _ | _ | k
      · simp [repX] at hk; subst hk; rfl
      · simp [repX] at hk; subst hk; rfl
      · simp [repX] at hk; subst hk; rfl
      · simp [repX] at hk; subst hk; rfl
      · omega
  · have := h3 c hc
    rw [hn] at this
    rw [h1.cell]
    exact this
  · have := h3 c hc
    rw [hs] at this
    obtain ⟨g, cap, b1, b2, b3, b4, b5, b6⟩ := this
    rw [repP_two hs] at b1 b4
    exact ⟨g, cap, by rw [h1.cell]; exact b1, b3, b4, b5, b6⟩
theorem RepRd.below {W W' : World} {R B n : Nat} (h : RepRd W R B) (hn : W.heap.size ≤ n) (hb : Below n W W') : RepRd W' R B := by
  have hk : ∀ b o, b < W.heap.size → W'.cell? ⟨b, o, none⟩ = W.cell? ⟨b, o, none⟩ := fun b o hlt => hb.cell (p := ⟨b, o, none⟩) (Nat.lt_of_lt_of_le hlt hn)
  have hs := hb.size
  refine ⟨⟨by have := h.lt; omega, by have := h.lt; omega⟩, (hk _ _ h.lt.2).trans h.names, fun k c e => (hk _ _ h.lt.1).trans (h.str k c e), fun c hc e => (hk _ _ h.lt.2).trans (h.no c hc e), fun c bs hc e => ?_⟩
  obtain ⟨g, cap, b1, b2, b3, b4, b5⟩ := h.yes c bs hc e
  exact ⟨g, cap, (hk _ _ h.lt.2).trans b1, by omega, b3, b4, fun j b hj => (hk _ _ b2).trans (b5 j b hj)⟩
end Go.Proofs.YtcaigcmbgihhkaaGreatDoor
namespace Go.Proofs.YtcaigcmbgihhkaaGreatDoor
open Go Go.RowKit
set_option linter.unusedVariables false
set_option linter.unusedSimpArgs false
attribute [local go_sem] Oper.semAt_some
theorem take_set_succ {l : List Value} {j : Nat} {v : Value} (h : j < l.length) : (l.set j v).take (j + 1) = l.take j ++ [v] := by
  rw [List.take_add_one, List.take_set_of_le (Nat.le_refl _), List.getElem?_set_self h]
  rfl
theorem info_u8 : (Tryz.prog.info? 5).map (fun i => (i.zero, i.size, i.bytes)) = some (some (.int .u8 0), 1, 1) := by kernel_rfl
set_option maxRecDepth 100000 in
set_option maxHeartbeats 4000000 in
theorem replace_any (w : World) (R B : Nat) (s : ByteArray) (hs : s.size ≤ 1099511627776) (h : RepRd w R B) :
    Calls Tryz.prog 264 #[.pointer (some ⟨B, 0, none⟩), .string s] w fun e w' => e = .returned (.string (mkB (qL (bl s)))) ∧ Below w.heap.size w w' := by
  have H := Lib.hid h
  have hnm := h.names
  have hle := spN_le (bl s)
  rw [bl_len] at hle
  have hneq := fun (w : World) => run_neq_slice_nil_any (P := Tryz.prog) w 68 5
  clear h
  obtain ⟨d32, hd32⟩ : ∃ d, decide ((32 : Int) ≤ (s.size : Int)) = d := ⟨_, rfl⟩
  go_enter Tryz.func264, Tryz.ntmps264
  go_upto_if 26 with (fail)
  go_cut [5, 6] (fun s5 s6 w' => ∃ an : Bool, s5 = .int .i64 ((s.size : Int) + (spN (bl s) : Int)) ∧ s6 = .bool an ∧ Hid (an = true ↔ 0 < spN (bl s)) ∧ Hid (RepRd w' R B) ∧ Hid (Below w.heap.size w w'))
  case first =>
    cases d32
    rotate_left
    · have h32 : (32 : Int) ≤ (s.size : Int) := of_decide_eq_true hd32
      go_wp2_with fail
      go_loopw [5, 6, 32] (fun s5 s6 s32 wr => ∃ (k : Nat) (an : Bool), k ≤ 4 ∧ s32 = .int .i64 (k : Int) ∧ s5 = .int .i64 ((s.size : Int) + (repS (bl s) k : Int)) ∧ s6 = .bool an ∧ Hid (an = true ↔ 0 < repS (bl s) k) ∧ Hid (RepRd wr R B) ∧ Hid (Below w.heap.size w wr)) (fun _ _ s32 _ => 4 - (intOf s32).toNat)
      case atStart => exact ⟨0, false, by omega, rfl, by simp [repS], rfl, Lib.hid (by simp [repS]), H, Lib.hid (Below.refl _ _)⟩
      case round =>
        obtain ⟨k, an, hk, rfl, rfl, rfl, han, hrd, hbl⟩ := hrel
        by_cases hk4 : k < 4
        · obtain ⟨c, hc, hsome⟩ := repX_get hk4
          obtain ⟨bs, hbs⟩ := Option.isSome_iff_exists.1 hsome
          obtain ⟨g, cap, y1, y2, y3, y4, y5⟩ := hrd.out.yes c.toNat bs (UInt8.toNat_lt c) hbs
          have hstr := hrd.out.str k c hc
          have hsucc := repS_succ (bl s) hc
          have hcnt : (bl s).count c ≤ s.size := by rw [← bl_len]; exact List.count_le_length
          have hle4 := repS_le (bl s) k
          rw [bl_len] at hle4
          have hct : ∀ w, Calls Tryz.prog 266 #[.string s, .string ⟨#[c]⟩] w fun e w' => e = .returned (.int .i64 ((bl s).count c : Nat)) ∧ w = w' := fun w => (Tryz.strings_Count_one s c w).mono fun _ _ h => ⟨h.1, h.2.symm⟩
          have HCT := Lib.hid hct
          have HSC := Lib.hid hsucc
          clear hct hsucc hc hsome hbs y5
          obtain ⟨N, hN⟩ : ∃ N, N = (bl s).count c := ⟨_, rfl⟩
          rw [← hN] at HCT HSC hcnt
          clear hN
          obtain ⟨M, hM⟩ : ∃ M, M = repS (bl s) k := ⟨_, rfl⟩
          rw [← hM] at HSC hle4 han ⊢
          clear hM
          obtain ⟨o, ho⟩ : ∃ o, o = c.toNat := ⟨_, rfl⟩
          have hob : ∀ h, ((⟨#[c]⟩ : ByteArray)[0]'h).toNat = o := fun h => ho.symm
          have ho2 : o < 256 := by have := UInt8.toNat_lt c; omega
          have ho3 : (o : Int) < 256 := by omega
          rw [← ho] at y1
          clear ho
          by_cases hN0 : N = 0
          · have hnz : ((N : Int) == 0) = true := by simp [hN0]
            have hnz2 : ((N : Int) != 0) = false := by simp [hN0]
            have HN0 := Lib.hid hN0
            clear hN0
            go_wp2_with (go_at_call 266; refine (HCT.out _).mono ?_; rintro e w' ⟨rfl, rfl⟩)
            go_roundw
            case rel => exact ⟨k + 1, an, by omega, by go_num, by rw [HSC.out, HN0.out]; rfl, rfl, by rw [HSC.out, HN0.out]; exact han, hrd, hbl⟩
            case measure => simp [intOf]; omega
          · have hnz : ((N : Int) == 0) = false := beq_eq_false_iff_ne.2 (by omega)
            have hnz2 : ((N : Int) != 0) = true := by simp [hN0]
            have e1 : IntKind.i64.wrap ((2 : Int) - 1) = 1 := rfl
            have e2 : IntKind.i64.wrap ((N : Int) * 1) = N := by rw [Int.mul_one]; exact IntWalk.i64_in _ (by omega)
            have e3 : IntKind.i64.wrap ((s.size : Int) + (M : Int) + (N : Int)) = (s.size : Int) + (M : Int) + (N : Int) := IntWalk.i64_in _ (by omega)
            have hN0' : 0 < N := by omega
            clear hN0
            go_wp2_with (go_at_call 266; refine (HCT.out _).mono ?_; rintro e w' ⟨rfl, rfl⟩)
            go_quiet (fail)
            go_wp2
            go_roundw
            case rel => exact ⟨k + 1, true, by omega, by go_num, by rw [HSC.out]; go_num, rfl, Lib.hid (by rw [HSC.out]; simp; omega), Lib.hid (hrd.out.below (Nat.le_refl _) (pw_below_drewN (Below.refl _ _) _)), Lib.hid (pw_below_drewN hbl.out _)⟩
            case measure => simp [intOf]; omega
        · obtain rfl : k = 4 := by omega
          rw [repS_four] at han ⊢
          go_wp2
          go_meet
          exact ⟨an, rfl, rfl, han, hrd, hbl⟩
    · have h32 : (s.size : Int) < 32 := by have := of_decide_eq_false hd32; omega
      go_wp2_with fail
      go_loopw [5, 6, 10] (fun s5 s6 s10 wr => ∃ (k : Nat) (an : Bool), k ≤ s.size ∧ s10 = .int .i64 (k : Int) ∧ s5 = .int .i64 ((s.size : Int) + (spN ((bl s).take k) : Int)) ∧ s6 = .bool an ∧ Hid (an = true ↔ 0 < spN ((bl s).take k)) ∧ wr = w) (fun _ _ s10 _ => s.size - (intOf s10).toNat)
      case atStart => exact ⟨0, false, by omega, rfl, by simp [spN], rfl, Lib.hid (by simp [spN]), rfl⟩
      case round =>
        obtain ⟨k, an, hk, rfl, rfl, rfl, han, rfl⟩ := hrel
        by_cases hkl : k < s.size
        · obtain ⟨c, hc⟩ : ∃ c, (bl s)[k]? = some c := ⟨_, List.getElem?_eq_getElem (by rw [bl_len]; exact hkl)⟩
          have htk : spN ((bl s).take (k + 1)) = spN ((bl s).take k) + if (repP 0 c.toNat).isSome then 1 else 0 := by rw [List.take_add_one, hc, Option.toList_some, spN_append, spN_cons]; simp [spN]
          have hle2 := spN_le ((bl s).take k)
          rw [List.length_take] at hle2
          obtain ⟨o, ho⟩ : ∃ o, o = c.toNat := ⟨_, rfl⟩
          have hob : ∀ h, (s[k]'h).toNat = o := fun h => by
            rw [ho]
            have : (bl s)[k]? = some (s[k]'h) := by rw [List.getElem?_eq_getElem (by rw [bl_len]; exact hkl)]; rfl
            rw [hc] at this
            cases this
            rfl
          have ho2 : o < 256 := by have := UInt8.toNat_lt c; omega
          have ho3 : (o : Int) < 256 := by omega
          have hkl' : (k : Int) < (s.size : Int) := by omega
          obtain ⟨M, hM⟩ : ∃ M, M = spN ((bl s).take k) := ⟨_, rfl⟩
          rw [← hM] at htk hle2 han ⊢
          rw [← ho] at htk
          have HTK := Lib.hid htk
          clear hM htk ho hc
          cases hrp : repP 0 o with
          | none =>
            have hcell := H.out.no o ho2 hrp
            have HRP := Lib.hid hrp
            clear hrp
            go_wp2
            go_roundw
            case rel => exact ⟨k + 1, an, by omega, by go_num, by rw [HTK.out, HRP.out]; rfl, rfl, Lib.hid (by rw [HTK.out, HRP.out]; simpa using han.out), trivial⟩
            case measure => simp [intOf]; omega
          | some bs =>
            obtain ⟨g, cap, y1, y2, y3, y4, y5⟩ := H.out.yes o bs ho2 hrp
            have HRP := Lib.hid hrp
            clear hrp y5
            go_wp2
            go_roundw
            case rel => exact ⟨k + 1, true, by omega, by go_num, by rw [HTK.out, HRP.out]; go_num, rfl, Lib.hid (by rw [HTK.out, HRP.out]; simp), trivial⟩
            case measure => simp [intOf]; omega
        · obtain rfl : k = s.size := by omega
          have hall : (bl s).take s.size = bl s := by rw [← bl_len, List.take_length]
          rw [hall] at han ⊢
          clear hall
          go_wp2
          go_meet
          exact ⟨an, rfl, rfl, han, H, Lib.hid (Below.refl _ _)⟩
  case rest =>
    obtain ⟨an, rfl, rfl, han, hrd, hbl⟩ := hcut
    cases an with
    | false =>
      have h0 : spN (bl s) = 0 := by have := han.out; simp at this; omega
      have hq := qL_same _ h0
      have HQ := Lib.hid hq
      clear h0 hq
      go_wp2
      go_ret
      refine ⟨?_, hbl.out⟩
      rw [HQ.out, mkB_bl]
      rfl
    | true =>
      obtain ⟨N, hN⟩ : ∃ N, N = s.size + spN (bl s) := ⟨_, rfl⟩
      have hNi : (s.size : Int) + (spN (bl s) : Int) = (N : Int) := by omega
      rw [hNi]
      have hNl : (qL (bl s)).length = N := by rw [qL_len, bl_len, hN]
      have hN2 : N ≤ 2199023255552 := by omega
      have HNL := Lib.hid hNl
      clear hNi hN hNl hle hd32 hnm
      obtain ⟨i0, hi, hz0, hz1, hz2⟩ := info_parts info_u8
      go_wp2_with (at_make; refine wpList_make_full _ rfl _ _ 68 rfl wc.heap.size 5 i0 (.int .u8 0) 1 Tryz.underlying68 hi hz0 hz1 .i64 .i64 _ _ N rfl rfl rfl rfl (by rw [hz2]; omega) (by unfold maxLen; omega) (Nat.le_refl _) ?_; intro w0 hown0 hgrow0; have HO0 := Lib.hid hown0; have HG0 := Lib.hid hgrow0; clear hown0 hgrow0)
      have hbuf : ∃ cur : List Value, cur.length = N ∧ w0.heap[wc.heap.size]? = some (.cells cur.toArray 5 (0, 0)) := by
        obtain ⟨_, ⟨e, _⟩ | ⟨g, cap, cur, e, _, h1, _, _, h2, _⟩⟩ := HO0.out
        · cases e
        · cases e
          exact ⟨cur.toList, by simpa using h2, by simpa using h1⟩
      have HBF := Lib.hid hbuf
      have hbl0 : Below wc.heap.size wc w0 := (Below.refl _ _).grown HG0.out (Nat.le_refl _) (fun k e => by cases e)
      have hrd0 := hrd.out.below (Nat.le_refl _) hbl0
      have HRD0 := Lib.hid hrd0
      have HBL0 := Lib.hid hbl0
      have hlt0 : wc.heap.size < w0.heap.size := by obtain ⟨cur, _, h⟩ := HBF.out; exact (Array.getElem?_eq_some_iff.1 h).1
      clear hbuf hrd0 hbl0
      go_loopw [13, 14] (fun s13 s14 wr => ∃ (k j : Nat) (cur : List Value), k ≤ s.size ∧ s14 = .int .i64 (k : Int) ∧ s13 = .int .i64 (j : Int) ∧ Hid (j = (qL ((bl s).take k)).length) ∧ Hid (cur.length = N) ∧ Hid (wr.heap[wc.heap.size]? = some (.cells cur.toArray 5 (0, 0))) ∧ Hid (cur.take j = bcells (qL ((bl s).take k))) ∧ Hid (Below wc.heap.size wc wr)) (fun _ s14 _ => s.size - (intOf s14).toNat)
      case atStart =>
        obtain ⟨cur, h1, h2⟩ := HBF.out
        exact ⟨0, 0, cur, by omega, rfl, rfl, Lib.hid rfl, Lib.hid h1, Lib.hid h2, Lib.hid rfl, HBL0⟩
      case round =>
        obtain ⟨k, j, cur, hk, rfl, rfl, hj, hcl, hcur, htk, hblr⟩ := hrel
        by_cases hkl : k < s.size
        · obtain ⟨c, hc⟩ : ∃ c, (bl s)[k]? = some c := ⟨_, List.getElem?_eq_getElem (by rw [bl_len]; exact hkl)⟩
          have hstep : qL ((bl s).take (k + 1)) = qL ((bl s).take k) ++ qb c := by rw [List.take_add_one, hc, Option.toList_some, qL_append]; simp [qL]
          have hjN : j + (qb c).length ≤ N := by
            have h1 : qL (bl s) = qL ((bl s).take (k + 1)) ++ qL ((bl s).drop (k + 1)) := by rw [← qL_append, List.take_append_drop]
            have h2 := congrArg List.length h1
            rw [HNL.out, hstep, List.length_append, List.length_append, ← hj.out] at h2
            omega
          obtain ⟨o, ho⟩ : ∃ o, o = c.toNat := ⟨_, rfl⟩
          have hob : ∀ h, (s[k]'h).toNat = o := fun h => by
            rw [ho]
            have : (bl s)[k]? = some (s[k]'h) := by rw [List.getElem?_eq_getElem (by rw [bl_len]; exact hkl)]; rfl
            rw [hc] at this
            cases this
            rfl
          have ho2 : o < 256 := by have := UInt8.toNat_lt c; omega
          have ho3 : (o : Int) < 256 := by omega
          have hkl' : (k : Int) < (s.size : Int) := by omega
          have hrdr := hrd.out.below (Nat.le_refl _) hblr.out
          have HST := Lib.hid hstep
          have hqb : qb c = (repP 0 o).getD [c] := by rw [ho]; rfl
          have hBlk : Blk wr wc.heap.size 5 cur.toArray := hcur.out
          have hfz := hBlk.frozen j
          clear hstep hc
          cases hrp : repP 0 o with
          | none =>
            have hcell := hrdr.no o ho2 hrp
            rw [hrp] at hqb
            have hqb' : qb c = [c] := hqb
            rw [hqb', List.length_singleton] at hjN
            obtain ⟨u, hu⟩ : ∃ u, cur[j]? = some u := ⟨_, List.getElem?_eq_getElem (by rw [hcl.out]; omega)⟩
            have hcj : wr.cell? ⟨wc.heap.size, j, none⟩ = some u := by rw [hBlk.cell]; simpa using hu
            have hjN' : (j : Int) < (N : Int) := by omega
            have HQB := Lib.hid hqb'
            have HO := Lib.hid ho
            have HBK := Lib.hid hBlk
            clear hrp hqb hqb' hu ho hBlk
            go_wp2
            go_roundw
            case rel =>
              refine ⟨k + 1, j + 1, cur.set j (.int .u8 (o : Int)), by omega, by go_num, by go_num, Lib.hid ?_, Lib.hid (by rw [List.length_set]; exact hcl.out), Lib.hid ?_, Lib.hid ?_, Lib.hid (hblr.out.setCell (p := ⟨wc.heap.size, j, none⟩) (Nat.le_refl _) _)⟩
              · rw [HST.out, HQB.out, List.length_append, ← hj.out]; rfl
              · have := HBK.out.set j (.int .u8 (o : Int))
                rw [List.setIfInBounds_toArray] at this
                exact this
              · rw [HST.out, HQB.out, bcells_append, ← htk.out, take_set_succ (by rw [hcl.out]; omega), HO.out]
                rfl
            case measure => simp [intOf]; omega
          | some bs =>
            obtain ⟨g, cap, y1, y2, y3, y4, y5⟩ := hrdr.yes o bs ho2 hrp
            rw [hrp] at hqb
            have hqb' : qb c = bs := hqb
            have hb2 := repP_two hrp
            rw [hqb', hb2] at hjN
            have HQB := Lib.hid hqb'
            have HO := Lib.hid ho
            have HBK := Lib.hid hBlk
            have HY5 := Lib.hid y5
            have HB2 := Lib.hid hb2
            have hjN' : (j : Int) + 2 ≤ (N : Int) := by omega
            clear hrp hqb hqb' ho hBlk y5 hb2
            go_wp2
            have z1 : (j : Int) ≤ (N : Int) := by omega
            have z2 : j ≤ N := by omega
            have z3 : ¬ N = j := by omega
            have hcd : Hid (wr.drew.heap[wc.heap.size]? = some (.cells cur.toArray 5 (0, 0))) := Lib.hid HBK.out
            have hbd : Hid (Below wc.heap.size wc wr.drew) := Lib.hid ⟨hblr.out.os, hblr.out.tape, hblr.out.output, hblr.out.size, hblr.out.block⟩
            have hsrc : Hid (∀ (jj : Nat) v, (bcells bs)[jj]? = some v → wr.drew.cell? ((⟨g, 0, none⟩ : Addr).add jj) = some v) := Lib.hid (fun jj v hv => by
              rw [addr_add_lit, Nat.zero_add]
              simp only [bcells, List.getElem?_map, Option.map_eq_some_iff] at hv
              obtain ⟨b, hb, rfl⟩ := hv
              exact HY5.out jj b hb)
            have hbl2 : Hid ((bcells bs).length = Nat.min 2 (N - j)) := Lib.hid (by rw [bcells_length, HB2.out]; exact (Nat.min_eq_left (by omega)).symm)
            have s1 : Hid (j + (bcells bs).length ≤ cur.length) := Lib.hid (by rw [bcells_length, HB2.out, hcl.out]; omega)
            have s2 : Hid (∀ v ∈ bcells bs, v.oneCell' = true) := Lib.hid (fun v hv => by simp only [bcells, List.mem_map] at hv; obtain ⟨b, _, rfl⟩ := hv; rfl)
            have hl2 : Hid ((bcells bs).length = 2) := Lib.hid (by rw [bcells_length, HB2.out])
            go_region_law (refine step_copy_splice rfl (.tmp 105) (.tmp 111) 68 68 rfl 5 Tryz.underlying68 (by kernel_rfl) (some ⟨wc.heap.size, j, none⟩) (some ⟨g, 0, none⟩) (N - j) (N - j) 2 cap (by simp [Act.eval, Act.put]) (by simp [Act.eval, Act.put]) wc.heap.size j cur 5 hcd.out (bcells bs) hbl2.out (fun _ => ⟨rfl, _, rfl, hsrc.out⟩) s1.out s2.out wc.heap.size wc hbd.out (Nat.le_refl _) ?_; intro w5 hc5 hb5; rw [hl2.out]; have HB5 := Lib.hid hb5; clear hb5)
            go_wp2
            go_roundw
            case rel =>
              refine ⟨k + 1, j + 2, Go.splice cur j (bcells bs), by omega, by go_num, by go_num, Lib.hid ?_, Lib.hid ?_, Lib.hid hc5.out, Lib.hid ?_, HB5⟩
              · rw [HST.out, HQB.out, List.length_append, ← hj.out, HB2.out]
              · rw [length_splice _ _ _ s1.out]; exact hcl.out
              · rw [HST.out, HQB.out, bcells_append, ← htk.out, Go.splice, ← List.append_assoc, List.take_left']
                rw [List.length_append, hl2.out, List.length_take]
                have := s1.out
                omega
            case measure => simp [intOf]; omega
        · obtain rfl : k = s.size := by omega
          have hall : (bl s).take s.size = bl s := by rw [← bl_len, List.take_length]
          rw [hall] at hj htk
          have hjN : j = N := by rw [hj.out, HNL.out]
          subst hjN
          have hcv := run_convert_bytes_back (P := Tryz.prog) wr 68 9 5 ⟨wc.heap.size, 0, none⟩ j (qL (bl s)) Tryz.underlying68 Tryz.underlying5 Tryz.underlying9 (fun i hi => by
            rw [addr_add_lit, Nat.zero_add, (show Blk wr wc.heap.size 5 cur.toArray from hcur.out).cell, List.getElem?_toArray]
            have h1 := congrArg (fun l : List Value => l[i]?) htk.out
            rw [List.getElem?_take_of_lt (by rw [hj.out]; exact hi)] at h1
            rw [h1]
            simp [bcells, hi])
          rw [HNL.out] at hcv
          obtain ⟨X, hX⟩ : ∃ X : ByteArray, X = ⟨(qL (bl s)).toArray⟩ := ⟨_, rfl⟩
          rw [← hX] at hcv
          have HX := Lib.hid hX
          clear hX hall
          go_wp2
          go_ret
          refine ⟨?_, hbl.out.trans (hblr.out.mono hbl.out.size)⟩
          rw [HX.out]
          rfl
end Go.Proofs.YtcaigcmbgihhkaaGreatDoor
namespace Go.Proofs.YtcaigcmbgihhkaaGreatDoor
open Go Go.RowKit
set_option linter.unusedVariables false
set_option linter.unusedSimpArgs false
attribute [local go_sem] Oper.semAt_some
def repArgs : List Value := [.string ⟨#[10]⟩, .string ⟨#[92, 110]⟩, .string ⟨#[9]⟩, .string ⟨#[92, 116]⟩, .string ⟨#[34]⟩, .string ⟨#[92, 34]⟩, .string ⟨#[92]⟩, .string ⟨#[92, 92]⟩]
set_option maxRecDepth 100000 in
set_option maxHeartbeats 1000000 in
theorem newReplacer_any (w : World) (g : Nat) (hg : Blk w g 9 repArgs.toArray) : Calls Tryz.prog 64 #[.slice (some ⟨g, 0, none⟩) 8 8] w fun e w' => ∃ b, e = .returned (.pointer (some ⟨b, 0, none⟩)) ∧ w.heap.size ≤ b ∧ ReplNew w' b (.int .u32 0) (.int .i32 0) ∧ Below w.heap.size w w' := by
  obtain ⟨i0, hi, hz0, hz1, hz2⟩ := info_parts info_str
  have HG := Lib.hid hg
  clear hg
  go_enter Tryz.func64, Tryz.ntmps64
  have hnews : ∀ j u, repArgs[j]? = some u → w.cell? ((⟨g, 0, none⟩ : Addr).add j) = some u := fun j u hu => by
    rw [addr_add_lit, Nat.zero_add, HG.out.cell, List.getElem?_toArray]; exact hu
  have HN := Lib.hid hnews
  clear hnews
  go_wp2_with (at_builtin; refine wpList_append_own _ rfl _ _ 106 rfl w.heap.size 9 i0 (.string ByteArray.empty) 1 16 Tryz.underlying106 hi hz0 hz1 hz2 rfl (by decide) _ _ _ rfl (World.ownsRow_nil _ _ _ _) ⟨g, 0, none⟩ 8 8 repArgs rfl rfl HN.out (by decide) (by decide) (by decide) (Nat.le_refl _) ?_; intro v' w1 hown' hgrow _; obtain ⟨g', cap', rfl⟩ := ownsRow_succ hown'; have HO := Lib.hid hown'; have HGR := Lib.hid hgrow; clear hown' hgrow)
  go_ret
  have hbl : Below w.heap.size w w1 := (Below.refl _ _).grown HGR.out (Nat.le_refl _) (fun k e => by cases e)
  have hg' : w.heap.size ≤ g' ∧ g' < w1.heap.size := HO.out.lt g' rfl
  refine ⟨w1.heap.size, rfl, hbl.size, ⟨g', cap', .nilIface, ?_, by omega, by simp; omega, ?_⟩, hbl.alloc hbl.size _⟩
  · exact Blk.new w1 _ _
  · intro m o nb hd
    have hc := fun j u hu => (World.cell?_alloc_lt w1 (.cells #[.int .u32 0, .int .i32 0, .int .u32 0, .nilIface, .slice (some ⟨g', 0, none⟩) 8 cap'] 166) ⟨g', j, none⟩ hg'.2).trans ((by have := HO.out.cells (g := g') rfl j u hu; rw [addr_add_lit, Nat.zero_add] at this; exact this) : w1.cell? ⟨g', j, none⟩ = some u)
    have hm : m < 4 := (List.getElem?_eq_some_iff.1 hd).1
    rcases m with _ | _ | _ | _ | m
    · simp [repD] at hd; obtain ⟨rfl, rfl⟩ := hd; exact ⟨hc 0 _ rfl, hc 1 _ rfl⟩
    · simp [repD] at hd; obtain ⟨rfl, rfl⟩ := hd; exact ⟨hc 2 _ rfl, hc 3 _ rfl⟩
    · simp [repD] at hd; obtain ⟨rfl, rfl⟩ := hd; exact ⟨hc 4 _ rfl, hc 5 _ rfl⟩
    · simp [repD] at hd; obtain ⟨rfl, rfl⟩ := hd; exact ⟨hc 6 _ rfl, hc 7 _ rfl⟩
    · omega
set_option maxRecDepth 100000 in
set_option maxHeartbeats 1000000 in
theorem replacer_any (w : World) (b : Nat) (s : ByteArray) (hs : s.size ≤ 1099511627776) (h : ReplNew w b (.int .u32 0) (.int .i32 0)) : Calls Tryz.prog 65 #[.pointer (some ⟨b, 0, none⟩), .string s] w fun e w' => e = .returned (.string (mkB (qL (bl s)))) ∧ Touch (fun k => k = b) w w' := by
  obtain ⟨c0, c1, f0, f1, hlt⟩ := h.cells
  have H := Lib.hid h
  have hm : ∀ (a : Addr) (w : World), (method 427 231 (.pointer (some a)) "Replace").run Tryz.prog w = .ok (264, .pointer (some a)) w := fun _ _ => by kernel_rfl
  clear h c0 c1 f0 f1
  go_enter Tryz.func65, Tryz.ntmps65
  go_wp2_with fail
  refine (do_any w b H.out).mono ?_
  rintro e w1 ⟨rfl, ⟨R, B, hR, hb1, hbR, hrep⟩, ht1⟩
  have c3 : w1.cell? ⟨b, 3, none⟩ = some (.iface 231 (.pointer (some ⟨B, 0, none⟩))) := hb1.cell 3
  have HR := Lib.hid (RepRd.of hrep)
  have HT := Lib.hid ht1
  clear hb1 hrep ht1
  go_wp2_with (go_at_call 264; refine (replace_any _ R B s hs HR.out).mono ?_; rintro e w2 ⟨rfl, hb2⟩)
  go_ret
  exact ⟨rfl, HT.out.trans (Touch.of_below (S := fun _ => False) hb2) (fun _ h => h.elim)⟩
set_option maxRecDepth 100000 in
set_option maxHeartbeats 1000000 in
theorem quote_any (w : World) (s : ByteArray) (hs : s.size ≤ 1099511627776) : Calls Tryz.prog 29 #[.string s] w fun e w' => e = .returned (.string (mkB ([34] ++ qL (bl s) ++ [34]))) ∧ Below w.heap.size w w' := by
  go_enter Tryz.func29, Tryz.ntmps29
  go_wp2_with fail
  refine (newReplacer_any _ w.heap.size (by exact Blk.new w _ _)).mono ?_
  rintro e w1 ⟨b, rfl, hb, hnew, hb1⟩
  have HN := Lib.hid hnew
  have HB := Lib.hid hb1
  clear hnew hb1
  go_wp2_with fail
  refine (replacer_any _ b s hs HN.out).mono ?_
  rintro e w2 ⟨rfl, ht⟩
  have HT := Lib.hid ht
  clear ht
  obtain ⟨X, hX⟩ : ∃ X, X = mkB (qL (bl s)) := ⟨_, rfl⟩
  rw [← hX]
  have HX := Lib.hid hX
  have hXs : X.size ≤ 2199023255552 := by
    rw [hX, mkB_size, qL_len, bl_len]
    have := spN_le (bl s)
    rw [bl_len] at this
    omega
  clear hX
  go_wp2_with fail
  go_ret
  refine ⟨?_, ?_⟩
  · rw [HX.out]
    refine congrArg (fun x => Ending.returned (Value.string x)) (bl_inj ?_)
    rw [bl_append, bl_append, bl_mkB, bl_mkB]
    simp [bl]
  · have h1 : Below w.heap.size w w1 := ((Below.refl _ w).alloc (Nat.le_refl _) _).trans (HB.out.mono (by simp))
    exact h1.trans (HT.out.below h1.size (fun k hk => by subst hk; simp at hb; omega))
end Go.Proofs.YtcaigcmbgihhkaaGreatDoor
