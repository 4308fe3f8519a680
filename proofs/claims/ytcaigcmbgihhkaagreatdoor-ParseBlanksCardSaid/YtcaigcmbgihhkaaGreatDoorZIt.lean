/-
  Part of a proof: LexAll, LexIt, LexWd, LexWe, LexWg, LexWf, ParW.
-/
import Derived.Test.YtcaigcmbgihhkaaGreatDoorZWord
import Derived.RangeFuncNested
import Derived.RangeFuncBound
import Derived.RangeFuncCalls
import Derived.RangeFuncLeaves
import Derived.RangeFuncBox
import Derived.Shelf.Abstract
import Derived.Shelf.RegionOpen
import Derived.OwnWalkIn
import Derived.TacticsInMore
import Derived.LoopNIn
import Derived.LoopIn
import Derived.Test.YtcaigcmbgihhkaaGreatDoorZMem
namespace Go.Proofs.YtcaigcmbgihhkaaGreatDoor
open Go Go.RowKit Go.Proofs.YtcaigcmbgihhkaaGreatDoorW.PrintWords
set_option linter.unusedVariables false
set_option linter.unusedSimpArgs false
attribute [local go_sem] Oper.semAt_some
def keysS : ByteArray := ⟨#[97, 115, 32, 98, 111, 111, 108, 32, 99, 97, 116, 99, 104, 32, 99, 108, 97, 115, 115, 32, 100, 111, 32, 101, 108, 115, 101, 32, 101, 120, 116, 101, 110, 100, 115, 32, 102, 97, 108, 115, 101, 32, 102, 105, 101, 108, 100, 32, 105, 102, 32, 105, 110, 116, 32, 105, 115, 32, 108, 101, 110, 32, 109, 101, 116, 104, 111, 100, 32, 110, 101, 119, 32, 110, 117, 108, 108, 32, 112, 114, 105, 110, 116, 32, 114, 101, 97, 100, 32, 114, 101, 116, 117, 114, 110, 32, 115, 101, 116, 32, 115, 112, 97, 119, 110, 32, 115, 116, 114, 32, 115, 121, 110, 99, 32, 116, 104, 105, 115, 32, 116, 104, 114, 111, 119, 32, 116, 114, 117, 101, 32, 116, 114, 121, 32, 117, 110, 105, 116, 32, 118, 97, 114, 32, 119, 104, 105, 108, 101]⟩
theorem keys_fields : Lib.fields (bl keysS) = keysL := by decide
set_option maxRecDepth 100000 in
theorem keys_any (w : World) (hS : SpaceAt w) : Calls Tryz.prog 52 #[] w fun e w' => e = .returned (.slice (some ⟨w.heap.size, 0, none⟩) 30 30) ∧ w' = w.alloc (.cells (keysL.map fun l => Value.string (mkB l)).toArray 9) := by
  have h := Tryz.strings_Fields_laid keysS w (by decide) (ascii_all _ (by decide)) hS
  rw [show Lib.fields keysS.data.toList = keysL from keys_fields] at h
  have H := Lib.hid h
  clear h
  go_enter Tryz.func52, Tryz.ntmps52
  go_wp2_with (go_at_call 90; refine H.out.mono ?_; rintro e w1 ⟨rfl, rfl⟩)
  go_ret
  exact ⟨rfl, rfl⟩
set_option maxRecDepth 100000 in
set_option maxHeartbeats 2000000 in
theorem all_any (w : World) (s : ByteArray) (hS : SpaceAt w) : Calls Tryz.prog 26 #[.string s] w fun e w' =>
    e = .returned (.func (.func 53) #[] #[.pointer (some ⟨w.heap.size, 0, none⟩), .pointer (some ⟨w.heap.size + 1 + 1, 0, none⟩)]) ∧
    Blk w' w.heap.size 9 #[.string s] ∧ Blk w' (w.heap.size + 1 + 1) 116 #[.map (some (w.heap.size + 1))] ∧ SetIn w' (w.heap.size + 1) keysL ∧ Below w.heap.size w w' := by
  have hmm := @run_makeMap Tryz.prog
  have HS := Lib.hid hS
  clear hS
  go_enter Tryz.func26, Tryz.ntmps26
  go_wp2_with fail
  have hb0 := (((Below.refl w.heap.size w).alloc (Nat.le_refl _) (.cells #[.string s] 9)).alloc (by simp) (.map #[] 0)).alloc (by simp; omega) (.cells #[.map (some (w.heap.size + 1))] 116)
  refine (keys_any _ (HS.out.mono (by first | exact hb0 | simpa using hb0))).mono ?_
  rintro e w1 ⟨rfl, hw1⟩
  have q1 := Blk.new w 9 #[.string s]
  have q2 := World.ownsMap_made (w.alloc (.cells #[.string s] 9)) Tryz.prog 9 (plainElem (H := Unit) Tryz.prog 4)
  have q3 := Blk.new ((w.alloc (.cells #[.string s] 9)).alloc (.map #[] 0)) 116 #[.map (some (w.heap.size + 1))]
  have q4 := Blk.new (((w.alloc (.cells #[.string s] 9)).alloc (.map #[] 0)).alloc (.cells #[.map (some (w.heap.size + 1))] 116)) 9 (keysL.map fun l => Value.string (mkB l)).toArray
  have q5 := hb0.alloc (by simp; omega) (.cells (keysL.map fun l => Value.string (mkB l)).toArray 9)
  have q1' := ((q1.alloc (.map #[] 0)).alloc (.cells #[.map (some (w.heap.size + 1))] 116)).alloc (.cells (keysL.map fun l => Value.string (mkB l)).toArray 9)
  have q3' := q3.alloc (.cells (keysL.map fun l => Value.string (mkB l)).toArray 9)
  rw [World.size_alloc] at q2
  have q2a : SetIn ((w.alloc (.cells #[.string s] 9)).alloc (.map #[] 0)) (w.heap.size + 1) [] := q2
  have q2' := (q2a.below ((Below.refl _ _).alloc (Nat.le_refl _) (.cells #[.map (some (w.heap.size + 1))] 116))).below ((Below.refl _ _).alloc (Nat.le_refl _) (.cells (keysL.map fun l => Value.string (mkB l)).toArray 9))
  simp only [World.size_alloc] at q3' q4 hw1 ⊢
  rw [← hw1] at q1' q2' q3' q4 q5
  clear hw1 q1 q2 q3 hb0 q2a
  have Q1 := Lib.hid q1'
  have Q2 := Lib.hid q2'
  have Q3 := Lib.hid q3'
  have Q4 := Lib.hid q4
  have Q5 := Lib.hid q5
  clear q1' q2' q3' q4 q5
  have h30 : keysL.length = 30 := rfl
  go_wp2
  go_loopw [9] (fun s9 wr => ∃ k : Nat, k ≤ 30 ∧ s9 = .int .i64 (k : Int) ∧ Hid (Blk wr w.heap.size 9 #[.string s]) ∧ Hid (Blk wr (w.heap.size + 1 + 1) 116 #[.map (some (w.heap.size + 1))]) ∧ Hid (SetIn wr (w.heap.size + 1) (keysL.take k)) ∧ Hid (Blk wr (w.heap.size + 1 + 1 + 1) 9 (keysL.map fun l => Value.string (mkB l)).toArray) ∧ Hid (Below w.heap.size w wr)) (fun s9 _ => 30 - (intOf s9).toNat)
  case atStart => exact ⟨0, Nat.zero_le _, rfl, Q1, Q3, Q2, Q4, Q5⟩
  case round =>
    obtain ⟨k, hk, rfl, R1, R3, R2, R4, R5⟩ := hrel
    by_cases hlt : k < 30
    · obtain ⟨d, hd⟩ : ∃ d, keysL[k]? = some d := ⟨_, List.getElem?_eq_getElem (by omega)⟩
      have hcell : wr.cell? ⟨w.heap.size + 1 + 1 + 1, k, none⟩ = some (.string (mkB d)) := by
        rw [R4.out.cell, List.getElem?_toArray, List.getElem?_map, hd]; rfl
      have hcm : wr.cell? ⟨w.heap.size + 1 + 1, 0, none⟩ = some (.map (some (w.heap.size + 1))) := R3.out.cell 0
      have hds : (mkB d).size ≤ maxLen := by
        rw [mkB_size]
        have : ∀ x ∈ keysL, x.length ≤ 100 := by decide
        have := this d (List.mem_of_getElem? hd)
        unfold maxLen; omega
      have htk : keysL.take (k + 1) = keysL.take k ++ [d] := by rw [List.take_add_one, hd]; rfl
      have hlk : (keysL.take k).length = k := by rw [List.length_take]; omega
      have hown := R2.out
      unfold SetIn at hown
      rw [hlk] at hown
      have HO := Lib.hid hown
      have HT := Lib.hid htk
      have HLK := Lib.hid hlk
      have HD := Lib.hid hds
      clear hown htk hlk hds hd
      go_wp2_with (at_mapUpdate; refine wpList_mapUpdate_own _ rfl _ _ _ 116 rfl 9 4 strKeyed Tryz.underlying116 _ (w.heap.size + 1) k _ rfl HO.out (by unfold maxLen; omega) _ _ (.string (mkB d).data.toList) rfl rfl (WideMaps.keyOf_string_mk Tryz.underlying9 HD.out) (.lit (.bool true)) [] (plainElem_bool Tryz.underlying4 true) ?_; intro w5 hown5 hgrow5; have H5 := Lib.hid hown5; have G5 := Lib.hid hgrow5; clear hown5 hgrow5)
      go_roundw
      case rel =>
        refine ⟨k + 1, by omega, by simp, Lib.hid (R1.out.kept G5.out (by simp <;> omega)), Lib.hid (R3.out.kept G5.out (by simp <;> omega)), Lib.hid ?_, Lib.hid (R4.out.kept G5.out (by simp <;> omega)), Lib.hid (Below.grown R5.out G5.out R5.out.size (fun r e => by cases e; omega))⟩
        unfold SetIn
        rw [HT.out, keysD_snoc, List.length_append, HLK.out]
        exact H5.out
      case measure => simp [intOf]; omega
    · obtain rfl : k = 30 := by omega
      have hR2 := R2.out
      rw [List.take_of_length_le (by omega)] at hR2
      have HR2 := Lib.hid hR2
      clear hR2
      go_wp2
      go_ret
      exact ⟨rfl, R1.out, R3.out, HR2.out, R5.out⟩
end Go.Proofs.YtcaigcmbgihhkaaGreatDoor
namespace Go.Proofs.YtcaigcmbgihhkaaGreatDoor
open Go Go.RowKit Go.Shelf
set_option linter.unusedVariables false
set_option linter.unusedSimpArgs false
attribute [local go_sem] Oper.semAt_some
def itemsFrom (size : Nat) : Nat → Bs → List WordD
  | 0, _ => []
  | m + 1, l => if l = [] then [] else match wordL l with
    | none => [⟨0, [], 0, ((size - l.length : Nat) : Int)⟩]
    | some (k, t, v, n) => ⟨k, t, v, ((size - l.length : Nat) : Int)⟩ :: itemsFrom size m (skipL (l.drop n))
def wval (x : WordD) : Value := .agg #[.int .i64 x.kind, .string (mkB x.text), .int .i64 x.n, .int .i64 x.at_]
structure Keep (P : Nat → Prop) (w w' : World) : Prop where
  os : w'.os = w.os
  tape : w'.tape = w.tape
  output : w'.output = w.output
  size : w.heap.size ≤ w'.heap.size
  block : ∀ k, P k → k < w.heap.size → w'.heap[k]? = w.heap[k]?
theorem Keep.refl (P : Nat → Prop) (w : World) : Keep P w w := ⟨rfl, rfl, rfl, Nat.le_refl _, fun _ _ _ => rfl⟩
theorem Keep.trans {P : Nat → Prop} {a b c : World} (h : Keep P a b) (k : Keep P b c) : Keep P a c :=
  ⟨k.os.trans h.os, k.tape.trans h.tape, k.output.trans h.output, Nat.le_trans h.size k.size, fun i hp hi => (k.block i hp (Nat.lt_of_lt_of_le hi h.size)).trans (h.block i hp hi)⟩
theorem Keep.below {P : Nat → Prop} {a b : World} (h : Below a.heap.size a b) : Keep P a b := ⟨h.os, h.tape, h.output, h.size, fun k _ hk => h.block k hk⟩
theorem Blk.keep {P : Nat → Prop} {W W' : World} {B : Nat} {t : TypeId} {cs : Array Value} (h : Blk W B t cs) (hk : Keep P W W') (hp : P B) : Blk W' B t cs := (hk.block B hp h.lt).trans h
theorem SetIn.keep {P : Nat → Prop} {W W' : World} {m : Nat} {ks : List Bs} (h : SetIn W m ks) (hk : Keep P W W') (hp : P m) : SetIn W' m ks := by
  have hl := h.lt
  obtain ⟨es, c, hh, r⟩ := h
  exact ⟨es, c, (hk.block m hp hl).trans hh, r⟩
theorem SpaceAt.keep {P : Nat → Prop} {w w' : World} (h : SpaceAt w) (hk : Keep P w w') (hp : P 0) : SpaceAt w' := by
  have hl := h.pos
  unfold SpaceAt Lib.TabIs World.var? at h ⊢
  rw [gSpace] at h ⊢
  simp only [Option.bind_some] at h ⊢
  rw [hk.block _ hp hl]
  exact h
theorem grown_of_below {w w' : World} (h : Below w.heap.size w w') : w.grownBy w' none := ⟨h.os, h.tape, h.output, h.size, fun k hk _ => h.block k hk⟩
theorem skip_in (n : Nat) (W : World) (s : ByteArray) (hs : s.size ≤ 140737488351232) : CallsIn Fence.wide n Tryz.prog 54 #[.string s] W fun e W' => e = .returned (.string (mkB (skipL (bl s)))) ∧ Below W.heap.size W W' :=
  (callsIn_wide (n := n)).2 (skip_any W s hs)
theorem items_cons (size m : Nat) (l : Bs) (hl : l ≠ []) (hm : l.length < m) : ∃ m', m = m' + 1 ∧ ((∃ k t v n, wordL l = some (k, t, v, n) ∧ 0 < n ∧ n ≤ l.length ∧ itemsFrom size m l = ⟨k, t, v, ((size - l.length : Nat) : Int)⟩ :: itemsFrom size m' (skipL (l.drop n)) ∧ (skipL (l.drop n)).length < m') ∨
    (wordL l = none ∧ itemsFrom size m l = [⟨0, [], 0, ((size - l.length : Nat) : Int)⟩])) := by
  obtain ⟨m', rfl⟩ : ∃ m', m = m' + 1 := ⟨m - 1, by omega⟩
  refine ⟨m', rfl, ?_⟩
  rw [itemsFrom, if_neg hl]
  cases hw : wordL l with
  | none => right; exact ⟨rfl, rfl⟩
  | some x =>
    obtain ⟨k, t, v, n⟩ := x
    obtain ⟨h1, h2, _⟩ := wordL_n hw
    left
    have := skipL_len (l.drop n)
    rw [List.length_drop] at this
    exact ⟨k, t, v, n, rfl, h1, h2, rfl, by omega⟩
theorem take_more {α : Type} (d : List α) (x : α) (r : List α) : (d ++ x :: r).take (d.length + 1) = d ++ [x] := by
  rw [show d ++ x :: r = (d ++ [x]) ++ r by simp, List.take_left' (by simp)]
set_option maxRecDepth 100000 in
set_option maxHeartbeats 4000000 in
theorem lexall1_in (n : Nat) (hn : 1 ≤ n) (l Bc Bm mb : Nat) (P : Nat → Prop) (src : ByteArray) (hsrc : src.size ≤ 16384) (items : List WordD) (hit : items = itemsFrom src.size (src.size + 1) (skipL (bl src)))
    (J Jx : List WordD → World → Prop) (W : World) (hJ : AbidesFrom W.heap.size J)
    (hY : ∀ pre x W, J pre W → pre.length < items.length → YieldAt Fence.wide (n - 1) Tryz.prog l #[wval x] W fun e W' =>
      (e = .returned (.bool true) ∧ J (pre ++ [x]) W' ∧ Keep P W W') ∨ (e = .returned (.bool false) ∧ Jx (pre ++ [x]) W'))
    (hBs : Blk W Bc 9 #[.string src]) (hBm : Blk W Bm 116 #[.map (some mb)]) (hset : SetIn W mb keysL) (hS : SpaceAt W) (p1 : P Bc) (p2 : P Bm) (p3 : P mb) (p4 : P 0) (h0 : J [] W) :
    CallsIn Fence.wide n Tryz.prog 53 #[.func (.yield l) #[] #[], .pointer (some ⟨Bc, 0, none⟩), .pointer (some ⟨Bm, 0, none⟩)] W fun e W' => (∃ v, e = .returned v) ∧
      ((∃ ys, ys = items ∧ J ys W') ∨ (∃ pre, (∃ k, k ≤ items.length ∧ pre = items.take k) ∧ Jx pre W')) := by
  have HBS := Lib.hid hBs
  have HBM := Lib.hid hBm
  have HSET := Lib.hid hset
  have HSP := Lib.hid hS
  have HIT := Lib.hid hit
  have HJ := Lib.hid hJ
  have HY := Lib.hid hY
  have cS := hBs.cell 0
  simp only [List.getElem?_toArray, List.getElem?_cons_zero] at cS
  clear hBs hBm hset hS hit hJ hY
  refine callsIn_of_wp Tryz.func53 rfl trivial ?_ rfl
  simp only [Tryz.ntmps53, List.size_toArray, List.length_cons, List.length_nil, Nat.reduceAdd, Nat.reduceSub, Array.replicate_succ, Array.replicate_zero, List.push_toArray, List.append_toArray, List.nil_append, List.cons_append]
  gi_wp2_with fail
  refine ⟨trivial, (skip_in (n - 1) _ src (by omega)).mono ?_⟩
  rintro e w1 ⟨rfl, hb1⟩
  have B1 := Lib.hid hb1
  clear hb1
  have K1 := Lib.hid (Keep.below (P := P) B1.out)
  have J1 := Lib.hid (HJ.out [] W w1 none h0 (grown_of_below B1.out) (fun r e => by cases e))
  have hsk := skipL_len (bl src)
  rw [bl_len] at hsk
  clear B1 cS
  gi_wp2
  gi_loopw [4] (fun s4 wr => ∃ (sl : Bs) (m : Nat) (done : List WordD), s4 = .string (mkB sl) ∧ sl.length ≤ src.size ∧ sl.length < m ∧ Hid (items = done ++ itemsFrom src.size m sl) ∧ Hid (J done wr) ∧ Hid (Keep P W wr)) (fun s4 _ => strSize s4)
  case atStart => exact ⟨skipL (bl src), src.size + 1, [], rfl, hsk, by omega, HIT, J1, K1⟩
  case round =>
    obtain ⟨sl, m, done, rfl, hsl, hm, hitm, hJd, hK⟩ := hrel
    have hsz := mkB_size sl
    by_cases hemp : sl = []
    · have he1 : (mkB sl).toList.isEmpty = true := by rw [toList_bl, bl_mkB, hemp]; rfl
      have he2 : ((mkB sl).toList == []) = true := by rw [toList_bl, bl_mkB, hemp]; rfl
      have hi0 : items = done := by
        obtain ⟨m', rfl⟩ : ∃ m', m = m' + 1 := ⟨m - 1, by omega⟩
        rw [hitm.out, itemsFrom, if_pos hemp, List.append_nil]
      have HI0 := Lib.hid hi0
      clear hemp hi0
      gi_wp2
      go_end0
      exact ⟨⟨_, rfl⟩, .inl ⟨_, HI0.out.symm, hJd.out⟩⟩
    · have he1 : (mkB sl).toList.isEmpty = false := by rw [toList_bl, bl_mkB]; cases sl with | nil => exact absurd rfl hemp | cons a b => rfl
      have he2 : ((mkB sl).toList == []) = false := by rw [toList_bl, bl_mkB]; exact beq_eq_false_iff_ne.2 hemp
      have hslp : 0 < sl.length := by cases sl with | nil => exact absurd rfl hemp | cons a b => simp
      obtain ⟨m', hmm, hcase⟩ := items_cons src.size m sl hemp hm
      have HMM := Lib.hid hmm
      clear hmm hemp
      rcases hcase with ⟨k, t, v, nn, hw, hn1, hn2, hitc, hlm⟩ | ⟨hw, hitc⟩
      ·
        obtain ⟨x, hx⟩ : ∃ x : WordD, x = ⟨k, t, v, ((src.size - sl.length : Nat) : Int)⟩ := ⟨_, rfl⟩
        have hxl : done.length < items.length := by rw [hitm.out, List.length_append, hitc]; simp
        have hwd := (callsIn_wide (n := n - 1)).2 (word_any wr (mkB sl) mb (by rw [mkB_size]; omega) (by rw [mkB_size]; exact hslp) (HSET.out.keep hK.out p3) (HSP.out.keep hK.out p4))
        rw [bl_mkB, hw] at hwd
        dsimp only [wagg, wlen] at hwd
        have HWD := Lib.hid hwd
        have cM := (HBM.out.keep hK.out p2).cell 0
        simp only [List.getElem?_toArray, List.getElem?_cons_zero] at cM
        have HX := Lib.hid hx
        have HITC := Lib.hid hitc
        have HXL := Lib.hid hxl
        clear hwd hx hitc hxl hw
        gi_wp2_with fail
        refine ⟨trivial, HWD.out.mono ?_⟩
        rintro e w2 ⟨rfl, hb2⟩
        have hb3 := hb2.alloc hb2.size (.cells #[.int .i64 k, .string (mkB t), .int .i64 v, .int .i64 ((src.size : Int) - (sl.length : Int))] 36)
        have hb4 := hb2.alloc hb2.size (.cells #[.int .i64 k, .string (mkB t), .int .i64 v, .int .i64 0] 36)
        have cS4 := (((HBS.out.keep hK.out p1).below hb4 (by exact (HBS.out.keep hK.out p1).lt))).cell 0
        simp only [List.getElem?_toArray, List.getElem?_cons_zero] at cS4
        have cS2 := (((HBS.out.keep hK.out p1).below hb2 (by exact (HBS.out.keep hK.out p1).lt))).cell 0
        simp only [List.getElem?_toArray, List.getElem?_cons_zero] at cS2
        have hj3 := HJ.out done wr _ none hJd.out (grown_of_below hb3) (fun r e => by cases e)
        obtain ⟨fn, tmps, assign, body, hy, hR⟩ := HY.out done x _ hj3 HXL.out
        have hxv : wval x = .agg #[.int .i64 k, .string (mkB t), .int .i64 v, .int .i64 ((src.size : Int) - (sl.length : Int))] := by
          have hat : ((src.size - sl.length : Nat) : Int) = (src.size : Int) - (sl.length : Int) := by omega
          rw [HX.out, wval]
          dsimp only
          rw [hat]
          try rfl
        rw [hxv] at hy
        have HR := Lib.hid hR
        have K3 := Lib.hid (hK.out.trans (Keep.below hb3))
        clear hb3 hb4 hj3 hR hxv hb2 cM
        gi_wp2_with fail
        refine HR.out.mono ?_
        rintro e W3 (⟨rfl, hJ3, hk3⟩ | ⟨rfl, hJx3⟩)
        · have K4 := Lib.hid (K3.out.trans hk3)
          have J4 := Lib.hid hJ3
          have hnz : ((nn : Int) == 0) = false := beq_eq_false_iff_ne.2 (by omega)
          have hns : (nn : Int) ≤ ((mkB sl).size : Int) := by rw [mkB_size]; omega
          have hns2 : nn ≤ (mkB sl).size := by rw [mkB_size]; omega
          obtain ⟨y, hy2⟩ : ∃ y, y = (mkB sl).extract nn (mkB sl).size := ⟨_, rfl⟩
          have hyb : bl y = sl.drop nn := by rw [hy2, ext_list, bl_mkB, mkB_size, List.take_of_length_le (by rw [List.length_drop]; omega)]
          have hys : y.size = sl.length - nn := by rw [← bl_len, hyb, List.length_drop]
          have hsk := skip_in (n - 1) W3 y (by omega)
          rw [hyb] at hsk
          have HSK := Lib.hid hsk
          have hskl := skipL_len (sl.drop nn)
          rw [List.length_drop] at hskl
          have hy2' := hy2.symm
          clear hJ3 hk3 hsk hy2 hyb hys
          rw [mkB_size] at hy2'
          gi_wp2_with fail
          refine ⟨trivial, HSK.out.mono ?_⟩
          rintro e w6 ⟨rfl, hb6⟩
          have J6 := Lib.hid (HJ.out _ W3 w6 none J4.out (grown_of_below hb6) (fun r e => by cases e))
          have K6 := Lib.hid (K4.out.trans (Keep.below hb6))
          clear hb6
          gi_wp2
          go_roundw
          case rel => exact ⟨_, m', done ++ [x], rfl, by omega, hlm, Lib.hid (by rw [hitm.out, HITC.out, HX.out, List.append_assoc]; rfl), J6, K6⟩
          case measure => simp only [strSize]; rw [mkB_size, mkB_size]; omega
        · have J4 := Lib.hid hJx3
          clear hJx3
          gi_wp2
          (try simp only [Exit.inBlock, Exit.then])
          refine bodyPost_ret (results_none rfl _ _ _) rfl ?_
          exact ⟨⟨_, rfl⟩, .inr ⟨_, ⟨done.length + 1, by rw [hitm.out, List.length_append, HITC.out]; simp, by rw [hitm.out, HITC.out, HX.out]; exact (take_more _ _ _).symm⟩, J4.out⟩⟩
      ·
        obtain ⟨x, hx⟩ : ∃ x : WordD, x = ⟨0, [], 0, ((src.size - sl.length : Nat) : Int)⟩ := ⟨_, rfl⟩
        have hxl : done.length < items.length := by rw [hitm.out, List.length_append, hitc]; simp
        have hwd := (callsIn_wide (n := n - 1)).2 (word_any wr (mkB sl) mb (by rw [mkB_size]; omega) (by rw [mkB_size]; exact hslp) (HSET.out.keep hK.out p3) (HSP.out.keep hK.out p4))
        rw [bl_mkB, hw] at hwd
        dsimp only [wagg, wlen] at hwd
        have HWD := Lib.hid hwd
        have cM := (HBM.out.keep hK.out p2).cell 0
        simp only [List.getElem?_toArray, List.getElem?_cons_zero] at cM
        have HX := Lib.hid hx
        have HITC := Lib.hid hitc
        have HXL := Lib.hid hxl
        clear hwd hx hitc hxl hw
        gi_wp2_with fail
        refine ⟨trivial, HWD.out.mono ?_⟩
        rintro e w2 ⟨rfl, hb2⟩
        have hb3 := hb2.alloc hb2.size (.cells #[.int .i64 0, .string ⟨#[]⟩, .int .i64 0, .int .i64 ((src.size : Int) - (sl.length : Int))] 36)
        have hb4 := hb2.alloc hb2.size (.cells #[.int .i64 0, .string ⟨#[]⟩, .int .i64 0, .int .i64 0] 36)
        have cS4 := (((HBS.out.keep hK.out p1).below hb4 (by exact (HBS.out.keep hK.out p1).lt))).cell 0
        simp only [List.getElem?_toArray, List.getElem?_cons_zero] at cS4
        have cS2 := (((HBS.out.keep hK.out p1).below hb2 (by exact (HBS.out.keep hK.out p1).lt))).cell 0
        simp only [List.getElem?_toArray, List.getElem?_cons_zero] at cS2
        have hj3 := HJ.out done wr _ none hJd.out (grown_of_below hb3) (fun r e => by cases e)
        obtain ⟨fn, tmps, assign, body, hy, hR⟩ := HY.out done x _ hj3 HXL.out
        have hxv : wval x = .agg #[.int .i64 0, .string ⟨#[]⟩, .int .i64 0, .int .i64 ((src.size : Int) - (sl.length : Int))] := by
          have hat : ((src.size - sl.length : Nat) : Int) = (src.size : Int) - (sl.length : Int) := by omega
          rw [HX.out, wval]
          dsimp only
          rw [hat]
          try rfl
        rw [hxv] at hy
        have HR := Lib.hid hR
        have K3 := Lib.hid (hK.out.trans (Keep.below hb3))
        clear hb3 hb4 hj3 hR hxv hb2 cM
        gi_wp2_with fail
        refine HR.out.mono ?_
        rintro e W3 (⟨rfl, hJ3, hk3⟩ | ⟨rfl, hJx3⟩)
        · have J4 := Lib.hid hJ3
          clear hJ3 hk3
          gi_wp2
          (try simp only [Exit.inBlock, Exit.then])
          refine bodyPost_ret (results_none rfl _ _ _) rfl ?_
          exact ⟨⟨_, rfl⟩, .inl ⟨_, by rw [hitm.out, HITC.out, HX.out], J4.out⟩⟩
        · have J4 := Lib.hid hJx3
          clear hJx3
          gi_wp2
          (try simp only [Exit.inBlock, Exit.then])
          refine bodyPost_ret (results_none rfl _ _ _) rfl ?_
          exact ⟨⟨_, rfl⟩, .inr ⟨_, ⟨done.length + 1, by rw [hitm.out, List.length_append, HITC.out]; simp, by rw [hitm.out, HITC.out, HX.out]; exact (take_more _ _ _).symm⟩, J4.out⟩⟩
end Go.Proofs.YtcaigcmbgihhkaaGreatDoor
namespace Go.Proofs.YtcaigcmbgihhkaaGreatDoor
open Go Go.RowKit Go.Shelf
set_option linter.unusedVariables false
set_option linter.unusedSimpArgs false
attribute [local go_sem] Oper.semAt_some
theorem items_lex (size : Nat) : ∀ (m : Nat) (l : Bs) (acc : List WordD), l.length < m →
    ((∀ x ∈ itemsFrom size m l, x.kind ≠ 0) ∧ lexFrom size m l acc = (acc ++ itemsFrom size m l, 0, 0)) ∨
    (∃ ini x, itemsFrom size m l = ini ++ [x] ∧ x.kind = 0 ∧ (∀ y ∈ ini, y.kind ≠ 0) ∧ lexFrom size m l acc = ([], x.at_, 18))
  | 0, l, acc, h => by omega
  | m + 1, l, acc, h => by
    by_cases hl : l = []
    · left
      rw [itemsFrom, lexFrom, if_pos hl, if_pos hl]
      simp
    · rw [itemsFrom, lexFrom, if_neg hl, if_neg hl]
      cases hw : wordL l with
      | none => right; exact ⟨[], _, rfl, rfl, by simp, rfl⟩
      | some x =>
        obtain ⟨k, t, v, n⟩ := x
        obtain ⟨h1, h2, h3⟩ := wordL_n hw
        have := skipL_len (l.drop n)
        rw [List.length_drop] at this
        dsimp only
        rcases items_lex size m (skipL (l.drop n)) (acc ++ [⟨k, t, v, ((size - l.length : Nat) : Int)⟩]) (by omega) with ⟨a1, a2⟩ | ⟨ini, x, a1, a2, a3, a4⟩
        · left
          refine ⟨fun y hy => ?_, by rw [a2, List.append_assoc]; rfl⟩
          rcases List.mem_cons.1 hy with rfl | hy
          · exact h3
          · exact a1 y hy
        · right
          refine ⟨_ :: ini, x, by rw [a1]; rfl, a2, fun y hy => ?_, a4⟩
          rcases List.mem_cons.1 hy with rfl | hy
          · exact h3
          · exact a3 y hy
def wcells (x : WordD) : List Value := [.int .i64 x.kind, .string (mkB x.text), .int .i64 x.n, .int .i64 x.at_]
def wrow (l : List WordD) : List Value := l.flatMap wcells
theorem wrow_snoc (l : List WordD) (x : WordD) : wrow (l ++ [x]) = wrow l ++ wcells x := by simp [wrow]
theorem Keep.put {P : Nat → Prop} {w : World} (hP : ∀ k, P k → k < w.heap.size) (W : World) (l : Nat) (o o' : Obj) (hl : w.heap.size ≤ l) (h : W.heap[l]? = some o) (_ : o.isCells = false) (_ : o.isWalk = false) : Keep P W (W.putObj l o') := by
  have hg := grownBy_putObj' W l o'
  exact ⟨hg.os, hg.tape, hg.output, hg.size, fun k hp hk => hg.block k hk (fun e => by cases e; have := hP _ hp; omega)⟩
theorem keep_own {P : Nat → Prop} {β : Type} {w : World} {B : Nat} (hP : ∀ k, P k → k < B) : OwnFrom B (fun (_ : β) W => Keep P w W) := fun s X Y row hs hg hr =>
  hs.trans ⟨hg.os, hg.tape, hg.output, hg.size, fun k hp hk => hg.block k hk (fun e => by have := hP k hp; have := (hr k e.symm).1; omega)⟩
theorem Keep.grown {P : Nat → Prop} {w W W' : World} {row : Option Nat} (h : Keep P w W) (hg : W.grownBy W' row) (hr : ∀ k, row = some k → ¬ P k) : Keep P w W' :=
  h.trans ⟨hg.os, hg.tape, hg.output, hg.size, fun k hp hk => hg.block k hk (fun e => hr k e.symm hp)⟩
theorem Keep.alloc {P : Nat → Prop} {w W : World} (h : Keep P w W) (o : Obj) : Keep P w (W.alloc o) := h.grown (World.grownBy_alloc W o none) (fun k e => by cases e)
theorem Keep.setCell {P : Nat → Prop} {w W : World} (h : Keep P w W) {p : Addr} (hp : ¬ P p.block) (u : Value) : Keep P w (W.setCell p u) :=
  h.trans ⟨rfl, rfl, rfl, by simp [World.setCell], fun k hk _ => Below.heap_setCell W p u k (fun e => hp (by rw [← e]; exact hk))⟩
theorem lexall_stops (n : Nat) (hn : 1 ≤ n) (Bc Bm mb : Nat) (P : Nat → Prop) (src : ByteArray) (hsrc : src.size ≤ 16384) (items : List WordD) (hit : items = itemsFrom src.size (src.size + 1) (skipL (bl src))) (w : World)
    (hBs : Blk w Bc 9 #[.string src]) (hBm : Blk w Bm 116 #[.map (some mb)]) (hset : SetIn w mb keysL) (hS : SpaceAt w) (p1 : P Bc) (p2 : P Bm) (p3 : P mb) (p4 : P 0) :
    SeqStopsK Fence.wide n Tryz.prog 53 #[.pointer (some ⟨Bc, 0, none⟩), .pointer (some ⟨Bm, 0, none⟩)] (fun x : WordD => #[wval x]) (Keep P) (fun ys => ys = items) (fun pre => ∃ k, k ≤ items.length ∧ pre = items.take k) items.length w :=
  fun l J Jx W hW hJ _ hY h0 => by
    have hk : Keep P w W := Keep.below hW
    exact lexall1_in n hn l Bc Bm mb P src hsrc items hit J Jx W hJ hY (hBs.keep hk p1) (hBm.keep hk p2) (hset.keep hk p3) (hS.keep hk p4) p1 p2 p3 p4 h0
end Go.Proofs.YtcaigcmbgihhkaaGreatDoor
namespace Go.Proofs.YtcaigcmbgihhkaaGreatDoor
open Go Go.RowKit Go.Shelf
set_option linter.unusedVariables false
set_option linter.unusedSimpArgs false
attribute [local go_sem] Oper.semAt_some
theorem words_app {W w1 : World} {b0 B : Nat} {t e : TypeId} {size : Nat} {v v' : Value} {k m : Nat} {xs ys : List Value} {tmp : Obj}
    (hv : Boxed W B t v) (hte : t ≠ e) (hrow : W.ownsRow b0 e size v k xs) (hown' : w1.ownsRow b0 e size v' m ys) (hgrow : (W.alloc tmp).grownBy w1 v.ownBlock) :
    Boxed w1 B t v ∧ Boxed (w1.setCell ⟨B, 0, none⟩ v') B t v' ∧ (w1.setCell ⟨B, 0, none⟩ v').ownsRow b0 e size v' m ys ∧ KeepsOthers W (w1.setCell ⟨B, 0, none⟩ v') := by
  have hv1 : Boxed w1 B t v := (hv.alloc tmp).kept hgrow (hv.not_row hte hrow)
  refine ⟨hv1, hv1.set v', hown'.kept (grownBy_setCell' w1 B v') (.inr (hv1.not_row hte hown').symm), ?_⟩
  refine ((KeepsOthers.alloc W tmp).trans (KeepsOthers.of_grownBy hgrow fun j o ej hj => ?_)).trans (KeepsOthers.setCell _ _ _)
  rcases (hrow.alloc tmp).2 with ⟨rfl, _⟩ | ⟨g, cap, cur, rfl, _, hgb, _⟩
  · simp [Value.ownBlock] at ej
  · obtain rfl : g = j := by simpa [Value.ownBlock] using ej
    rw [hgb] at hj; cases hj; rfl
theorem info_word : (Tryz.prog.info? 36).map (fun i => (i.zero, i.size, i.bytes)) = some (some (.agg #[.int .i64 0, .string ByteArray.empty, .int .i64 0, .int .i64 0]), 4, 40) := by kernel_rfl
set_option maxRecDepth 100000 in
set_option maxHeartbeats 1000000 in
theorem words_long (w : World) (s : ByteArray) (hs : 16384 < s.size) (hb : s.size ≤ 140737488351232) : Calls Tryz.prog 9 #[.string s] w fun e w' =>
    e = .returned (.tuple #[.slice none 0 0, .int .i64 0, .int .i64 6]) ∧ Below w.heap.size w w' := by
  have hsz : (16384 : Int) < (s.size : Int) := by omega
  go_enter Tryz.func9, Tryz.ntmps9
  go_wp2
  have b1 := ((Boxed.new w 22 (.slice none 0 0)).alloc (.cells #[.int .i64 0] 3)).alloc (.cells #[.int .i64 6] 23)
  have b2 := (Boxed.new (w.alloc (.cells #[.slice none 0 0] 22)) 3 (.int .i64 0)).alloc (.cells #[.int .i64 6] 23)
  have b3 := Boxed.new ((w.alloc (.cells #[.slice none 0 0] 22)).alloc (.cells #[.int .i64 0] 3)) 23 (.int .i64 6)
  have hb0 : Below w.heap.size w (((w.alloc (.cells #[.slice none 0 0] 22)).alloc (.cells #[.int .i64 0] 3)).alloc (.cells #[.int .i64 6] 23)) := (((Below.refl _ w).alloc (Nat.le_refl _) _).alloc (by simp) _).alloc (by simp; omega) _
  simp only [World.size_alloc] at b1 b2 b3
  generalize ((w.alloc (.cells #[.slice none 0 0] 22)).alloc (.cells #[.int .i64 0] 3)).alloc (.cells #[.int .i64 6] 23) = w3 at b1 b2 b3 hb0 ⊢
  have c1 := b1.cell
  have c2 := b2.cell
  have c3 := b3.cell
  refine bodyPost_ret (by simp [results, Tryz.f9, go_sem, c1, c2, c3]; rfl) rfl ?_
  exact ⟨rfl, hb0⟩
def WInv (w W0 : World) (P : Nat → Prop) (n : Nat) (pre : List WordD) (W : World) : Prop :=
  ((∀ x ∈ pre, x.kind ≠ 0) ∧ Boxed W n 22 (.slice none 0 0) ∧ Boxed W (n + 1) 3 (.int .i64 0) ∧ Boxed W (n + 1 + 1) 23 (.int .i64 0) ∧ (∃ v, Boxed W (n + 1 + 1 + 1) 22 v ∧ W.ownsRow W0.heap.size 36 4 v pre.length (wrow pre) ∧ True)) ∧ Keep P W0 W ∧ Below n w W
def WEnd (w : World) (n : Nat) (c : Code) (pre : List WordD) (W : World) : Prop :=
  (c = .ret ∧ ∃ ini x, pre = ini ++ [x] ∧ x.kind = 0 ∧ Boxed W n 22 (.slice none 0 0) ∧ Boxed W (n + 1) 3 (.int .i64 x.at_) ∧ Boxed W (n + 1 + 1) 23 (.int .i64 18)) ∧ Below n w W
theorem WInv.own {w W0 : World} {P : Nat → Prop} {n : Nat} (hP : ∀ k, P k → k < W0.heap.size) (hw : n ≤ w.heap.size) (hn : n ≤ W0.heap.size) : OwnFrom W0.heap.size (WInv w W0 P n) := by
  refine OwnFrom.and (Own.from (fun s A B row hs hg hr => ?_) _) (OwnFrom.and (keep_own hP) (ownFrom_below hw hn))
  obtain ⟨h1, h2, h3, h4, h5⟩ := hs
  exact ⟨h1, boxed_own _ _ (fun (_ : Unit) => Value.slice none 0 0) () A B row h2 hg hr, boxed_own _ _ (fun (_ : Unit) => Value.int .i64 0) () A B row h3 hg hr, boxed_own _ _ (fun (_ : Unit) => Value.int .i64 0) () A B row h4 hg hr,
    holdsRow_own W0.heap.size (n + 1 + 1 + 1) 22 36 4 (fun (pre : List WordD) => pre.length) wrow (fun _ _ => True) s A B row h5 hg hr⟩
theorem WEnd.own {w W0 : World} {n : Nat} (hw : n ≤ w.heap.size) (hn : n ≤ W0.heap.size) (c : Code) : OwnFrom W0.heap.size (WEnd w n c) := by
  refine OwnFrom.and (Own.from (fun s A B row hs hg hr => ?_) _) (ownFrom_below hw hn)
  obtain ⟨h0, ini, x, h1, h2, h3, h4, h5⟩ := hs
  exact ⟨h0, ini, x, h1, h2, boxed_own _ _ (fun (_ : Unit) => Value.slice none 0 0) () A B row h3 hg hr, boxed_own _ _ (fun (_ : Unit) => Value.int .i64 x.at_) () A B row h4 hg hr, boxed_own _ _ (fun (_ : Unit) => Value.int .i64 18) () A B row h5 hg hr⟩
end Go.Proofs.YtcaigcmbgihhkaaGreatDoor
namespace Go.Proofs.YtcaigcmbgihhkaaGreatDoor
open Go Go.RowKit Go.Shelf
set_option linter.unusedVariables false
set_option linter.unusedSimpArgs false
attribute [local go_sem] Oper.semAt_some
def firstRange : Code → Option Code
  | .rangeFunc _ _ _ c => some c
  | .loop c => firstRange c
  | .seq a b => match firstRange a with
    | some c => some c
    | none => firstRange b
  | .block _ c => firstRange c
  | .scope c => firstRange c
  | .cond _ a b => match firstRange a with
    | some c => some c
    | none => firstRange b
  | _ => none
theorem boxed3a {W : World} {a b c : Nat} {t : TypeId} {v : Value} (h : Boxed W a t v) (x y z : Value) (h1 : a ≠ b) (h2 : a ≠ c) : Boxed (((W.setCell ⟨a, 0, none⟩ x).setCell ⟨b, 0, none⟩ y).setCell ⟨c, 0, none⟩ z).drew a t x :=
  (show Boxed (((W.setCell ⟨a, 0, none⟩ x).setCell ⟨b, 0, none⟩ y).setCell ⟨c, 0, none⟩ z) a t x from ((h.set x).other h1 y).other h2 z)
theorem boxed3b {W : World} {a b c : Nat} {t : TypeId} {v : Value} (h : Boxed W b t v) (x y z : Value) (h1 : b ≠ a) (h2 : b ≠ c) : Boxed (((W.setCell ⟨a, 0, none⟩ x).setCell ⟨b, 0, none⟩ y).setCell ⟨c, 0, none⟩ z).drew b t y :=
  (show Boxed (((W.setCell ⟨a, 0, none⟩ x).setCell ⟨b, 0, none⟩ y).setCell ⟨c, 0, none⟩ z) b t y from ((h.other h1 x).set y).other h2 z)
theorem boxed3c {W : World} {a b c : Nat} {t : TypeId} {v : Value} (h : Boxed W c t v) (x y z : Value) (h1 : c ≠ a) (h2 : c ≠ b) : Boxed (((W.setCell ⟨a, 0, none⟩ x).setCell ⟨b, 0, none⟩ y).setCell ⟨c, 0, none⟩ z).drew c t z :=
  (show Boxed (((W.setCell ⟨a, 0, none⟩ x).setCell ⟨b, 0, none⟩ y).setCell ⟨c, 0, none⟩ z) c t z from ((h.other h1 x).other h2 y).set z)
noncomputable def wordsBody : Code := ((Tryz.f9.body.bind firstRange).getD .skip)
set_option maxRecDepth 100000 in
set_option maxHeartbeats 4000000 in
theorem words_body0 (l n Bx : Nat) (xa : Int) (s : ByteArray) (W : World) (W0s : Nat) (v u7 u8 u9 u10 u11 u12 : Value) (Q : Exit → Act → World → Prop) (v3 : Value)
    (e2 : Boxed W n 22 (.slice none 0 0)) (e3 : Boxed W (n + 1) 3 v3) (e4 : Boxed W (n + 1 + 1) 23 v)
    (cX0 : W.cell? ⟨Bx, 0, none⟩ = some (.int .i64 0)) (cX3 : W.cell? ⟨Bx, 3, none⟩ = some (.int .i64 xa)) (hne : n + 1 + 1 + 1 < Bx)
    (hQ : ∀ a' W', KeepsOthers W W' → (∀ k, k ≠ n → k ≠ n + 1 → k ≠ n + 1 + 1 → W'.heap[k]? = W.heap[k]?) → W'.heap.size = W.heap.size → W'.os = W.os → W'.tape = W.tape → W'.output = W.output → Boxed W' n 22 (.slice none 0 0) → Boxed W' (n + 1) 3 (.int .i64 xa) → Boxed W' (n + 1 + 1) 23 (.int .i64 18) → Q .ret a' W') :
    Code.wpIn (Fence.wide.inRound l) 1 Tryz.prog wordsBody Q ⟨#[.string s, undef, .pointer (some ⟨n, 0, none⟩), .pointer (some ⟨n + 1, 0, none⟩), .pointer (some ⟨n + 1 + 1, 0, none⟩), .pointer (some ⟨n + 1 + 1 + 1, 0, none⟩), .pointer (some ⟨Bx, 0, none⟩), u7, u8, u9, u10, u11, u12, undef, undef, undef, undef, undef, undef, undef, undef, undef, undef], []⟩ W := by
  conv => arg 4; whnf
  have c2 := e2.cell
  have c3 := e3.cell
  have c4 := e4.cell
  have f2 := e2.frozen
  have f3 := e3.frozen
  have f4 := e4.frozen
  have E2 := Lib.hid e2
  have E3 := Lib.hid e3
  have E4 := Lib.hid e4
  have HQ := Lib.hid hQ
  clear e2 e3 e4 hQ
  gi_wp2_with fail
  gi_region
  all_goals
    gi_wp2
    (try simp only [Exit.inBlock, Exit.then])
    refine HQ.out _ _ ?_ ?_ ?_ ?_ ?_ ?_ ?_ ?_ ?_
    · exact (((KeepsOthers.setCell _ _ _).trans (KeepsOthers.setCell _ _ _)).trans (KeepsOthers.setCell _ _ _)).trans (KeepsOthers.drew _)
    · intro k h1 h2 h3
      exact ((Below.heap_setCell _ ⟨n + 1 + 1, 0, none⟩ _ k h3).trans (Below.heap_setCell _ ⟨n + 1, 0, none⟩ _ k h2)).trans (Below.heap_setCell _ ⟨n, 0, none⟩ _ k h1)
    · simp [World.setCell, World.drew]
    · rfl
    · rfl
    · rfl
    · exact boxed3a E2.out _ _ _ (by omega) (by omega)
    · exact boxed3b E3.out _ _ _ (by omega) (by omega)
    · exact boxed3c E4.out _ _ _ (by omega) (by omega)
theorem words_end {k D : Nat} {W : World} {v x0 x1 x5 x6 x7 x8 x9 x10 x11 x12 x13 x14 x15 x16 x17 x18 x19 x20 x21 x22 : Value} {a e : Int} {Q : Ending → World → Prop} (hK : W.heap[D]? = some (.deferred (some []))) (b1 : Boxed W k 22 v) (b2 : Boxed W (k + 1) 3 (.int .i64 a)) (b3 : Boxed W (k + 1 + 1) 23 (.int .i64 e))
    (hQ : Q (.returned (.tuple #[v, .int .i64 a, .int .i64 e])) (W.putObj D (.deferred none))) :
    bodyPostM Fence.wide 3 Tryz.prog Tryz.f9 Q .ret ⟨#[x0, x1, .pointer (some ⟨k, 0, none⟩), .pointer (some ⟨k + 1, 0, none⟩), .pointer (some ⟨k + 1 + 1, 0, none⟩), x5, x6, x7, x8, x9, x10, x11, x12, x13, x14, x15, x16, x17, x18, x19, x20, x21, x22], [{ target := .collected D, args := #[] }]⟩ W := by
  have hg := grownBy_putObj' W D (.deferred none)
  have hne : ∀ {B : Nat} {t : TypeId} {u : Value}, Boxed W B t u → some B ≠ some D := fun hb e => by
    cases e
    have := hb.symm.trans hK
    cases this
  have c1 := (b1.kept hg (hne b1)).cell
  have c2 := (b2.kept hg (hne b2)).cell
  have c3 := (b3.kept hg (hne b3)).cell
  refine ⟨by simp, .inl ⟨_, _, rfl, run_takeDeferred hK, ?_⟩⟩
  refine ⟨.tuple #[v, .int .i64 a, .int .i64 e], ?_, hQ⟩
  simp [results, Tryz.f9, go_sem, c1, c2, c3]
end Go.Proofs.YtcaigcmbgihhkaaGreatDoor
namespace Go.Proofs.YtcaigcmbgihhkaaGreatDoor
open Go Go.RowKit Go.Shelf
set_option linter.unusedVariables false
set_option linter.unusedSimpArgs false
attribute [local go_sem] Oper.semAt_some
theorem items_len (size : Nat) : ∀ (m : Nat) (l : Bs), (itemsFrom size m l).length ≤ l.length + 1
  | 0, l => by simp [itemsFrom]
  | m + 1, l => by
    rw [itemsFrom]
    split
    · simp
    · split
      · simp
      · rename_i k t v n hw
        obtain ⟨h1, h2, _⟩ := wordL_n hw
        have h3 := skipL_len (l.drop n)
        have h4 := items_len size m (skipL (l.drop n))
        rw [List.length_drop] at h3
        simp only [List.length_cons]
        omega
set_option maxRecDepth 100000 in
set_option maxHeartbeats 4000000 in
theorem words_in (w : World) (s : ByteArray) (hs : s.size ≤ 16384) (hS : SpaceAt w) :
    CallsIn Fence.wide 3 Tryz.prog 9 #[.string s] w fun e w' => ∃ v, e = .returned (.tuple #[v, .int .i64 (lexL (bl s)).2.1, .int .i64 (lexL (bl s)).2.2]) ∧ w'.ownsRow w.heap.size 36 4 v (lexL (bl s)).1.length (wrow (lexL (bl s)).1) ∧ Below w.heap.size w w' := by
  have hL : lexL (bl s) = lexFrom s.size (s.size + 1) (skipL (bl s)) [] := by rw [lexL, bl_len, if_neg (by omega)]
  have hsk := skipL_len (bl s)
  rw [bl_len] at hsk
  have hcase := items_lex s.size (s.size + 1) (skipL (bl s)) [] (by omega)
  rw [← hL] at hcase
  obtain ⟨items, hit⟩ : ∃ x, x = itemsFrom s.size (s.size + 1) (skipL (bl s)) := ⟨_, rfl⟩
  rw [← hit] at hcase
  have HC := Lib.hid hcase
  have HIT := Lib.hid hit
  clear hcase hit hL hsk
  obtain ⟨R, hR⟩ : ∃ R, R = lexL (bl s) := ⟨_, rfl⟩
  rw [← hR] at HC ⊢
  clear hR
  have hil : items.length ≤ 20000 := by
    have h1 := items_len s.size (s.size + 1) (skipL (bl s))
    have h2 := skipL_len (bl s)
    rw [bl_len] at h2
    rw [HIT.out]
    omega
  obtain ⟨i0, hi, hz0, hz1, hz2⟩ := info_parts info_word
  refine callsIn_of_wp_marks Tryz.func9 rfl trivial ?_ rfl
  simp only [Tryz.ntmps9, List.size_toArray, List.length_cons, List.length_nil, Nat.reduceAdd, Nat.reduceSub, Array.replicate_succ, Array.replicate_zero, List.push_toArray, List.append_toArray, List.nil_append, List.cons_append]
  gi_wp2_with fail
  have b1 := (((Boxed.new w 22 (.slice none 0 0)).alloc (.cells #[.int .i64 0] 3)).alloc (.cells #[.int .i64 0] 23)).alloc (.cells #[.slice none 0 0] 22)
  have b2 := ((Boxed.new (w.alloc (.cells #[.slice none 0 0] 22)) 3 (.int .i64 0)).alloc (.cells #[.int .i64 0] 23)).alloc (.cells #[.slice none 0 0] 22)
  have b3 := (Boxed.new ((w.alloc (.cells #[.slice none 0 0] 22)).alloc (.cells #[.int .i64 0] 3)) 23 (.int .i64 0)).alloc (.cells #[.slice none 0 0] 22)
  have b4 := Boxed.new (((w.alloc (.cells #[.slice none 0 0] 22)).alloc (.cells #[.int .i64 0] 3)).alloc (.cells #[.int .i64 0] 23)) 22 (.slice none 0 0)
  have hb0 : Below w.heap.size w ((((w.alloc (.cells #[.slice none 0 0] 22)).alloc (.cells #[.int .i64 0] 3)).alloc (.cells #[.int .i64 0] 23)).alloc (.cells #[.slice none 0 0] 22)) := ((((Below.refl _ w).alloc (Nat.le_refl _) _).alloc (by simp) _).alloc (by simp; omega) _).alloc (by simp; omega) _
  have hz3 : ((((w.alloc (.cells #[.slice none 0 0] 22)).alloc (.cells #[.int .i64 0] 3)).alloc (.cells #[.int .i64 0] 23)).alloc (.cells #[.slice none 0 0] 22)).heap.size = w.heap.size + 4 := by simp
  simp only [World.size_alloc] at b1 b2 b3 b4
  generalize (((w.alloc (.cells #[.slice none 0 0] 22)).alloc (.cells #[.int .i64 0] 3)).alloc (.cells #[.int .i64 0] 23)).alloc (.cells #[.slice none 0 0] 22) = W3 at b1 b2 b3 b4 hb0 hz3 ⊢
  have hS3 : SpaceAt W3 := hS.mono hb0
  have hpos := hS.pos
  refine ⟨trivial, ((callsIn_wide (n := 2)).2 (all_any W3 s hS3)).mono ?_⟩
  rintro e W0 ⟨rfl, q1, q2, q3, hbW⟩
  have b1 : Boxed W0 _ _ _ := (hbW.block _ (by omega)).trans b1
  have b2 : Boxed W0 _ _ _ := (hbW.block _ (by omega)).trans b2
  have b3 : Boxed W0 _ _ _ := (hbW.block _ (by omega)).trans b3
  have b4 : Boxed W0 _ _ _ := (hbW.block _ (by omega)).trans b4
  have hS0 : SpaceAt W0 := hS3.mono hbW
  have hb1 : Below w.heap.size w W0 := hb0.trans (hbW.mono (by omega))
  rw [hz3] at q1 q2 q3
  have hq2 := q2.lt
  obtain ⟨P, hPd⟩ : ∃ P : Nat → Prop, P = fun k => k < w.heap.size ∨ (w.heap.size + 4 ≤ k ∧ k < w.heap.size + 4 + 3) := ⟨_, rfl⟩
  have hP : ∀ k, P k → k < W0.heap.size := fun k hk => by rw [hPd] at hk; rcases hk with h | h <;> omega
  have hPn : ∀ k, P k → ¬ (w.heap.size ≤ k ∧ k < w.heap.size + 4) := fun k hk => by rw [hPd] at hk; rcases hk with h | h <;> omega
  have p1 : P (w.heap.size + 4) := by rw [hPd]; right; omega
  have p2 : P (w.heap.size + 4 + 1 + 1) := by rw [hPd]; right; omega
  have p3 : P (w.heap.size + 4 + 1) := by rw [hPd]; right; omega
  have p4 : P 0 := by rw [hPd]; exact .inl hpos
  have hPw : ∀ k, k < w.heap.size → P k := fun k hk => by rw [hPd]; exact .inl hk
  clear hPd
  gi_wp2_with fail
  refine wpIn_rangeFunc_ownH (n := 3) rfl (by omega) (gf := 53) (lb := #[.pointer (some ⟨w.heap.size + 4, 0, none⟩), .pointer (some ⟨w.heap.size + 4 + 1 + 1, 0, none⟩)]) rfl trivial (enters_of Tryz.func53 (by kernel_rfl) rfl)
    (lexall_stops (3 - 1) (by omega) (w.heap.size + 4) (w.heap.size + 4 + 1 + 1) (w.heap.size + 4 + 1) P s hs items HIT.out W0 q1 q2 q3 hS0 p1 p2 p3 p4) Keep.trans (Keep.put hP) (Below.refl _ _) (fun _ => rfl)
    (WInv w W0 P w.heap.size)
    (WEnd w w.heap.size)
    (WInv.own hP (Nat.le_refl _) hb1.size)
    (fun c => WEnd.own (Nat.le_refl _) hb1.size c)
    ⟨⟨by simp, b1, b2, b3, _, b4, World.ownsRow_nil _ _ _ _, trivial⟩, Keep.refl _ _, hb1⟩
    (fun x a' W => ∃ Bx, W0.heap.size ≤ Bx ∧ Blk W Bx 36 #[.int .i64 x.kind, .string (mkB x.text), .int .i64 x.n, .int .i64 x.at_] ∧ ∃ u7 u8 u9 u10 u11, a' = { tmps := #[.string s, undef, .pointer (some ⟨w.heap.size, 0, none⟩), .pointer (some ⟨w.heap.size + 1, 0, none⟩), .pointer (some ⟨w.heap.size + 1 + 1, 0, none⟩), .pointer (some ⟨w.heap.size + 1 + 1 + 1, 0, none⟩), .pointer (some ⟨Bx, 0, none⟩), u7, u8, u9, u10, u11, wval x, undef, undef, undef, undef, undef, undef, undef, undef, undef, undef], defers := [] })
    (fun x a' _ X Y row hs hg hr => by obtain ⟨Bx, h1, h2, h3⟩ := hs; exact ⟨Bx, h1, blk_own Bx 36 (fun (_ : Unit) => #[Value.int .i64 x.kind, .string (mkB x.text), .int .i64 x.n, .int .i64 x.at_]) () X Y row h2 hg (fun r e => (hr r e).2), h3⟩)
    ?assign ?body ?done ?stop
  case assign =>
    rintro l pre x W K ⟨⟨e1, e2, e3, e4, v, e5, e6, _⟩, hk, hbl⟩ hK
    dsimp only [wval] at hK ⊢
    gi_wp2
    exact hK _ _ ((KeepsOthers.alloc _ _).from _) ((Keep.refl P W).alloc _) ⟨⟨e1, e2.alloc _, e3.alloc _, e4.alloc _, v, e5.alloc _, e6.alloc _, trivial⟩, hk.alloc _, hbl.alloc hbl.size _⟩ ⟨W.heap.size, hk.size, Blk.new W _ _, _, _, _, _, _, rfl⟩
  case body =>
    rintro l pre ⟨xk, xt, xn, xa⟩ a' W hl ⟨r, hr⟩ ⟨⟨e1, e2, e3, e4, v, e5, hrow, _⟩, hk, hbl⟩ ⟨Bx, hBx, bX, u7, u8, u9, u10, u11, rfl⟩ hlt
    dsimp only [wval] at bX ⊢
    have cX0 : W.cell? ⟨Bx, 0, none⟩ = some (.int .i64 xk) := bX.cell 0
    have cX1 : W.cell? ⟨Bx, 1, none⟩ = some (.string (mkB xt)) := bX.cell 1
    have cX2 : W.cell? ⟨Bx, 2, none⟩ = some (.int .i64 xn) := bX.cell 2
    have cX3 : W.cell? ⟨Bx, 3, none⟩ = some (.int .i64 xa) := bX.cell 3
    have c2 := e2.cell
    have c3 := e3.cell
    have c4 := e4.cell
    have c5 := e5.cell
    have f2 := e2.frozen
    have f3 := e3.frozen
    have f4 := e4.frozen
    by_cases hx : xk = 0
    · subst hx
      refine words_body0 l w.heap.size Bx xa s W 0 _ _ _ _ _ _ _ _ _ e2 e3 e4 cX0 cX3 (by omega) ?_
      intro a' W' k1 k2 k3 k4 k5 k6 k7 k8 k9
      refine ⟨k1.from _, ⟨rfl, pre, _, rfl, rfl, k7, k8, k9⟩, ?_⟩
      exact ⟨k4.trans hbl.os, k5.trans hbl.tape, k6.trans hbl.output, by have := hbl.size; omega, fun k hk => (k2 k (by omega) (by omega) (by omega)).trans (hbl.block k hk)⟩
    · have hxb : (xk == 0) = false := beq_eq_false_iff_ne.2 hx
      gi_wp2_with (gi_at_builtin; refine wpListIn_append_own _ rfl _ _ 22 rfl W0.heap.size 36 i0 (.agg #[.int .i64 0, .string ByteArray.empty, .int .i64 0, .int .i64 0]) 4 40 Tryz.underlying22 hi hz0 hz1 hz2 rfl (by decide) _ _ _ rfl (hrow.alloc _) ⟨W.heap.size, 0, none⟩ 1 1 [.int .i64 xk, .string (mkB xt), .int .i64 xn, .int .i64 xa] rfl rfl (news_at' _ _ _ _ (by simp)) (by simp [Value.oneCell']) (by unfold maxLen; omega) (by omega) (by have := hk.size; simp; omega) ?_; intro v' w1 hown' hgrow _; obtain ⟨g', cap', rfl⟩ := ownsRow_succ hown'; obtain ⟨hv1, hv2, hr2, hk2⟩ := words_app e5 (by decide) hrow hown' hgrow; have hc1 := hv1.cell; have hf1 := hv1.frozen; have HG := Lib.hid hgrow; clear hgrow)
      have hgrow := HG.out
      have hrl : ∀ k, v.ownBlock = some k → W0.heap.size ≤ k := fun k e => (hrow.lt k e).1
      have g2 := (e2.alloc (.cells #[.int .i64 xk, .string (mkB xt), .int .i64 xn, .int .i64 xa] 36)).kept hgrow (e2.not_row (by decide) hrow)
      have g3 := (e3.alloc (.cells #[.int .i64 xk, .string (mkB xt), .int .i64 xn, .int .i64 xa] 36)).kept hgrow (e3.not_row (by decide) hrow)
      have g4 := (e4.alloc (.cells #[.int .i64 xk, .string (mkB xt), .int .i64 xn, .int .i64 xa] 36)).kept hgrow (e4.not_row (by decide) hrow)
      refine ⟨hk2.from _, (((Keep.refl P W).alloc _).grown hgrow (fun k e hp => by have := hP k hp; have := hrl k e; omega)).setCell (fun hp => hPn _ hp ⟨by simp; omega, by simp⟩) _, ⟨fun y hy => ?_, Blk.other (cs := #[_]) g2 (by omega) _ _, Blk.other (cs := #[_]) g3 (by omega) _ _, Blk.other (cs := #[_]) g4 (by omega) _ _, _, hv2, ?_, trivial⟩, ((hk.alloc _).grown hgrow (fun k e hp => by have := hP k hp; have := hrl k e; omega)).setCell (fun hp => hPn _ hp ⟨by simp; omega, by simp⟩) _, ?_⟩
      · rcases List.mem_append.1 hy with hy | hy
        · exact e1 y hy
        · simp at hy; subst hy; exact hx
      · rw [wrow_snoc, List.length_append]
        exact hr2
      · exact ((hbl.alloc hbl.size _).grown hgrow (by have := hbl.size; simp; omega) (fun k e => by have := hrl k e; have := hb1.size; omega)).setCell (p := ⟨w.heap.size + 1 + 1 + 1, 0, none⟩) (by simp; omega) _
  case done =>
    rintro D ys W hD rfl ⟨⟨e1, e2, e3, e4, v, e5, hrow, _⟩, hk, hbl⟩ hK
    obtain ⟨va, vn, vc, rfl⟩ : ∃ a n c, v = .slice a n c := by rcases hrow.2 with ⟨rfl, _⟩ | ⟨g, cap, cur, rfl, _⟩ <;> exact ⟨_, _, _, rfl⟩
    have c2 := e2.cell
    have c3 := e3.cell
    have c4 := e4.cell
    have c5 := e5.cell
    have f2 := e2.frozen
    have f3 := e3.frozen
    have f4 := e4.frozen
    gi_wp2_with fail
    have hcase := HC.out
    rcases hcase with ⟨_, hR⟩ | ⟨ini, x, hys, hx, _⟩
    · rw [List.nil_append] at hR
      refine words_end ((((KeepsOthers.setCell _ _ _).trans (KeepsOthers.setCell _ _ _)).trans (KeepsOthers.setCell _ _ _)).same D _ hK rfl)
        (((e2.set _).other (by omega) _).other (by omega) _) (((e3.other (by omega) _).set _).other (by omega) _) (((e4.other (by omega) _).other (by omega) _).set _) ?_
      have hl1 : ∀ k, Value.ownBlock (.slice va vn vc) = some k → W0.heap.size ≤ k := fun k e => (hrow.lt k e).1
      rw [hR]
      refine ⟨_, rfl, ?_, ?_⟩
      · have h1 : W.ownsRow w.heap.size 36 4 (.slice va vn vc) ys.length (wrow ys) := ⟨hrow.1, hrow.2.imp id (fun ⟨g, cap, cur, h1, h2, h3⟩ => ⟨g, cap, cur, h1, by have := hb1.size; omega, h3⟩)⟩
        refine ownsRow_putObj (o := .deferred (some [])) ?_ _ ((((KeepsOthers.setCell _ _ _).trans (KeepsOthers.setCell _ _ _)).trans (KeepsOthers.setCell _ _ _)).same D _ hK rfl) rfl
        refine ((h1.kept (grownBy_setCell' _ _ _) (.inr ?_)).kept (grownBy_setCell' _ _ _) (.inr ?_)).kept (grownBy_setCell' _ _ _) (.inr ?_) <;> exact fun e => by have := hl1 _ e; omega
      · refine (((hbl.setCell (p := ⟨w.heap.size, 0, none⟩) (by simp) _).setCell (p := ⟨w.heap.size + 1, 0, none⟩) (by simp) _).setCell (p := ⟨w.heap.size + 1 + 1, 0, none⟩) (by simp; omega) _).trans (belowK_b (w := w) (Nat.le_refl _) _ D (.deferred (some [])) _ (by have := hb1.size; omega) ((((KeepsOthers.setCell _ _ _).trans (KeepsOthers.setCell _ _ _)).trans (KeepsOthers.setCell _ _ _)).same D _ hK rfl) rfl rfl)
    · exact absurd hx (e1 x (by rw [hys]; simp))
  case stop =>
    rintro D c pre W hD ⟨k, hk, rfl⟩ ⟨⟨rfl, ini, x, hpre, hx, e2, e3, e4⟩, hbl⟩ hK
    gi_wp2_with fail
    have hcase := HC.out
    rcases hcase with ⟨hall, _⟩ | ⟨ini2, x2, hys, hx2, hini, hR⟩
    · exact absurd hx (hall x (List.mem_of_mem_take (by rw [hpre]; simp)))
    · have hxx : x = x2 := by
        have hm : x ∈ items := List.mem_of_mem_take (i := k) (by rw [hpre]; simp)
        rw [hys] at hm
        rcases List.mem_append.1 hm with h | h
        · exact absurd hx (hini x h)
        · simpa using h
      subst hxx
      refine words_end hK e2 e3 e4 ?_
      rw [hR]
      exact ⟨_, rfl, World.ownsRow_nil _ _ _ _, hbl.trans (belowK_b (w := w) (Nat.le_refl _) _ D (.deferred (some [])) _ (by have := hb1.size; omega) hK rfl rfl)⟩
end Go.Proofs.YtcaigcmbgihhkaaGreatDoor
namespace Go.Proofs.YtcaigcmbgihhkaaGreatDoor
open Go Go.RowKit Go.Shelf Go.Proofs.YtcaigcmbgihhkaaGreatDoorW.PrintWords
set_option linter.unusedVariables false
set_option linter.unusedSimpArgs false
attribute [local go_sem] Oper.semAt_some
theorem words_any (w : World) (s : ByteArray) (hs : s.size ≤ 140737488351232) (hS : SpaceAt w) :
    Calls Tryz.prog 9 #[.string s] w fun e w' => ∃ v, e = .returned (.tuple #[v, .int .i64 (lexL (bl s)).2.1, .int .i64 (lexL (bl s)).2.2]) ∧ w'.ownsRow w.heap.size 36 4 v (lexL (bl s)).1.length (wrow (lexL (bl s)).1) ∧ Below w.heap.size w w' := by
  by_cases h : s.size ≤ 16384
  · exact (callsIn_wide (n := 3)).1 (words_in w s h hS)
  · have hl : lexL (bl s) = ([], 0, 6) := by rw [lexL, bl_len, if_pos (by omega)]
    rw [hl]
    exact (words_long w s (by omega) hs).mono fun e w' ⟨h1, h2⟩ => ⟨_, h1, World.ownsRow_nil _ _ _ _, h2⟩
end Go.Proofs.YtcaigcmbgihhkaaGreatDoor
