/-
  Part of a proof: RepA, RepB, RepC, RepD.
-/
import Derived.Test.YtcaigcmbgihhkaaGreatDoorZMem
import Derived.Test.YtcaigcmbgihhkaaGreatDoorProg
import Derived.Tactics
import Derived.Tactics2
import Derived.Defers
import Derived.Laws.Pointers
import Derived.Laws.LoneSync
import Derived.RegionTactic
import Derived.RegionCalls
import Derived.ChangeAlike
import Derived.WalkKit
import Derived.Lib.Hide
import Derived.LoopTactic
import Derived.LoopN
import Derived.OwnWalk
import Derived.OwnWalkIn
import Derived.Outline
import Derived.Laws.MakeOwn
import Derived.Laws.OwnMore
import Derived.Laws.NewBlocks
import Derived.Lib.ConvBytes
import Derived.Lib.SliceRun
import Derived.Maps.AppendAt
import Derived.WalkSpells
namespace Go.Proofs.YtcaigcmbgihhkaaGreatDoor
open Go Go.RowKit
theorem race_disable (w : World) : (callFunc 209 #[]).run Tryz.prog w = .ok (.value (.tuple #[])) w := run_call_mark0 Tryz.func209 (by kernel_rfl) (by kernel_rfl) (by kernel_rfl) .disable (by kernel_rfl) w
theorem race_enable (w : World) : (callFunc 211 #[]).run Tryz.prog w = .ok (.value (.tuple #[])) w := run_call_mark0 Tryz.func211 (by kernel_rfl) (by kernel_rfl) (by kernel_rfl) .enable (by kernel_rfl) w
theorem race_acquire (a : Addr) (w : World) : (callFunc 212 #[.pointer (some a)]).run Tryz.prog w = .ok (.value (.tuple #[])) w := run_call_marked Tryz.func212 (by kernel_rfl) (by kernel_rfl) (by kernel_rfl) .acquire (by kernel_rfl) a w
theorem race_releaseMerge (a : Addr) (w : World) : (callFunc 214 #[.pointer (some a)]).run Tryz.prog w = .ok (.value (.tuple #[])) w := run_call_marked Tryz.func214 (by kernel_rfl) (by kernel_rfl) (by kernel_rfl) .releaseMerge (by kernel_rfl) a w
theorem store_deferred (a : Addr) (x : Value) (u : FrameMode) (w : World) (hc : w.cell? a = some x) (hz : w.frozen? a = false) :
    CallsD Tryz.prog 167 #[.pointer (some a), .bool true] u w fun e u' w' => u' = u ∧ (e = .returned (.tuple #[]) ∧ w' = w.drew.setCell a (.int .u32 1)) := by
  have hc' : w.drew.cell? a = some x := by go_simp
  have hz' : w.drew.frozen? a = false := by go_simp
  have hst := run_call_store (P := Tryz.prog) Tryz.func195 (by kernel_rfl) (by kernel_rfl) (by kernel_rfl) (by kernel_rfl) (k := .u32) (y := 1) hc' hz'
  go_enter_d Tryz.func167, Tryz.ntmps167
  go_wp2
  go_region_calls
  all_goals (go_end0; exact ⟨rfl, rfl⟩)
set_option maxRecDepth 100000 in
theorem unlock_deferred (a : Addr) (u : FrameMode) (w : World) (hc : w.cell? a = some (.int .i32 1)) (hz : w.frozen? a = false) :
    CallsD Tryz.prog 166 #[.pointer (some a)] u w fun e u' w' => u' = u ∧ (e = .returned (.tuple #[]) ∧ w' = w.setCell a (.int .i32 0)) := by
  have hd := race_disable
  have he := race_enable
  have hr := race_releaseMerge
  have hadd := run_call_add (P := Tryz.prog) Tryz.func215 (by kernel_rfl) (by kernel_rfl) (by kernel_rfl) .i32 (by kernel_rfl) (y := -1) (s := 0) hc hz (by simp [go_sem]; rfl)
  have hcv := run_convert_to_unsafe (P := Tryz.prog) (src := 279) (dst := 168) Tryz.underlying279 Tryz.underlying168 (by kernel_rfl) hc
  go_enter_d Tryz.func166, Tryz.ntmps166
  go_wp2
  go_end0
  go_wp2
  go_end0
  exact ⟨rfl, rfl⟩
set_option maxRecDepth 100000 in
theorem lock_free (a : Addr) (w : World) (hc : w.cell? a = some (.int .i32 0)) (hz : w.frozen? a = false) :
    Calls Tryz.prog 165 #[.pointer (some a)] w fun e w' => e = .returned (.tuple #[]) ∧ w' = w.setCell a (.int .i32 1) := by
  have hd := race_disable
  have he := race_enable
  have ha := race_acquire
  have hcas := run_call_cas_hit (P := Tryz.prog) Tryz.func210 (by kernel_rfl) (by kernel_rfl) (by kernel_rfl) .i32 (by kernel_rfl) (y := 1) hc hz
  have hc' : (w.setCell a (.int .i32 1)).cell? a = some (.int .i32 1) := World.cell?_setCell_same w a _ hc
  have hcv := run_convert_to_unsafe (P := Tryz.prog) (src := 279) (dst := 168) Tryz.underlying279 Tryz.underlying168 (by kernel_rfl) hc'
  go_enter Tryz.func165, Tryz.ntmps165
  go_wp2
  first | go_end0 | (simp only [Exit.inBlock, Exit.then]; refine bodyPost_ret (results_none rfl _ _ _) rfl ?_) | refine bodyPost_ret (results_none rfl _ _ _) rfl ?_
  go_wp2
  go_end0
  exact ⟨rfl, rfl⟩
end Go.Proofs.YtcaigcmbgihhkaaGreatDoor
namespace Go.Proofs.YtcaigcmbgihhkaaGreatDoor
open Go Go.RowKit
set_option linter.unusedVariables false
set_option linter.unusedSimpArgs false
def repD : List (Nat × List UInt8) := [(10, [92, 110]), (9, [92, 116]), (34, [92, 34]), (92, [92, 92])]
def repP (m c : Nat) : Option (List UInt8) := ((repD.drop m).find? (fun d => d.1 == c)).map (·.2)
def SlIs (W : World) (B : Nat) (x : Option Value) : Option (List UInt8) → Prop
  | none => x = some (.slice none 0 0)
  | some bs => ∃ g cap, x = some (.slice (some ⟨g, 0, none⟩) bs.length cap) ∧ B < g ∧ g < W.heap.size ∧ bs.length ≤ cap ∧ cap ≤ maxLen ∧ ∀ j b, bs[j]? = some b → W.cell? ⟨g, j, none⟩ = some (.int .u8 (b.toNat : Int))
def RepIs (W : World) (R B m : Nat) : Prop := ∃ cs, Blk W B 230 cs ∧ cs.size = 257 ∧ (∀ c, c < 256 → SlIs W B cs[c]? (repP m c)) ∧ cs[256]? = some (.slice (some ⟨R, 0, none⟩) (4 - m) 4) ∧ R < B ∧
  W.ownsRow R 9 1 (.slice (some ⟨R, 0, none⟩) (4 - m) 4) (4 - m) ((repD.drop m).reverse.map fun d => Value.string ⟨#[UInt8.ofNat d.1]⟩)
theorem SlIs.keep {W W' : World} {B : Nat} {x : Option Value} {o : Option (List UInt8)} (h : SlIs W B x o) (hs : W.heap.size ≤ W'.heap.size) (hk : ∀ k, B < k → k < W.heap.size → W'.heap[k]? = W.heap[k]?) : SlIs W' B x o := by
  cases o with
  | none => exact h
  | some bs =>
    obtain ⟨g, cap, h1, h2, h3, h4, h5, h6⟩ := h
    exact ⟨g, cap, h1, h2, Nat.lt_of_lt_of_le h3 hs, h4, h5, fun j b hb => (World.cell?_of_block (a := ⟨g, j, none⟩) (hk g h2 h3)).trans (h6 j b hb)⟩
theorem zero_size : Tryz.zeroCells230.size = 257 := by kernel_rfl
theorem zero_rep : Tryz.zeroCells230.toList = List.replicate 257 (.slice none 0 0) := by kernel_rfl
theorem rep_store (P : Program) (w : World) (X : List Value) :
    let W := (w.alloc (.cells X.toArray 9)).alloc (.cells Tryz.zeroCells230 230)
    let vs := Tryz.zeroCells230.toList.set 256 (Value.slice (some ⟨w.heap.size, 0, none⟩) 0 4)
    ∃ W2, (storeCells ⟨w.heap.size + 1, 0, none⟩ vs).run P W = .ok () W2 ∧ Blk W2 (w.heap.size + 1) 230 vs.toArray ∧ Blk W2 w.heap.size 9 X.toArray ∧ Below w.heap.size w W2 ∧ W2.heap.size = w.heap.size + 2 := by
  intro W vs
  have hb : Blk W (w.heap.size + 1) 230 Tryz.zeroCells230 := by have := Blk.new (w.alloc (.cells X.toArray 9)) 230 Tryz.zeroCells230; rw [World.size_alloc] at this; exact this
  have hl : vs.length = 257 := by simp [vs, zero_size]
  have hw0 : Below w.heap.size w W := ((Below.refl _ w).alloc (Nat.le_refl _) _).alloc (by simp) _
  have hR : Blk W w.heap.size 9 X.toArray := (Blk.new w 9 X.toArray).alloc _
  have hsz : W.heap.size = w.heap.size + 2 := by simp [W]
  refine ⟨W.setCells (w.heap.size + 1) 0 vs, ?_, ?_, ?_, ?_, ?_⟩
  · have h := run_storeCells_cells (P := P) (w.heap.size + 1) 0 vs 0 W (fun j hj => by
        simp only [Nat.zero_add]
        rw [hb.cell, Array.getElem?_eq_getElem (by rw [zero_size]; omega)]; rfl) (fun j hj => by simp only [Nat.zero_add]; exact hb.frozen _) (fun v hv => by
        have : v = .slice none 0 0 ∨ v = Value.slice (some ⟨w.heap.size, 0, none⟩) 0 4 := by
          rcases List.mem_or_eq_of_mem_set hv with h | h
          · rw [zero_rep] at h; exact .inl (List.eq_of_mem_replicate h)
          · exact .inr h
        rcases this with rfl | rfl <;> rfl)
    exact h
  · have h := Blk.setCells vs 0 hb
    have he : splice Tryz.zeroCells230 0 vs = vs.toArray := by
      apply Array.toList_inj.1
      rw [splice_list vs _ 0 (by rw [hl, zero_size]; omega)]
      simp [hl, zero_size]
    rw [he] at h
    exact h
  · exact (heap_setCells _ _ _ _ _ (by omega)).trans hR
  · exact ⟨((grownBy_setCells W (w.heap.size + 1) 0 vs).os).trans hw0.os, ((grownBy_setCells W (w.heap.size + 1) 0 vs).tape).trans hw0.tape, ((grownBy_setCells W (w.heap.size + 1) 0 vs).output).trans hw0.output, by rw [size_setCells]; exact hw0.size, fun k hk => (heap_setCells _ _ _ _ _ (by omega)).trans (hw0.block k hk)⟩
  · rw [size_setCells]; exact hsz
theorem rep_start {W2 : World} {n : Nat} (hb : Blk W2 (n + 1) 230 (Tryz.zeroCells230.toList.set 256 (Value.slice (some ⟨n, 0, none⟩) 0 4)).toArray) (hR : Blk W2 n 9 #[.string ⟨#[]⟩, .string ⟨#[]⟩, .string ⟨#[]⟩, .string ⟨#[]⟩]) : RepIs W2 n (n + 1) 4 := by
  refine ⟨_, hb, by simp [zero_size], fun c hc => ?_, ?_, by omega, ?_⟩
  · have : repP 4 c = none := rfl
    rw [this]
    show _ = _
    rw [List.getElem?_toArray, List.getElem?_set_ne (by omega), zero_rep, List.getElem?_replicate, if_pos (by omega)]
  · rw [List.getElem?_toArray, List.getElem?_set_self (by simp [zero_size])]
  · exact ⟨rfl, .inr ⟨n, 4, _, rfl, Nat.le_refl _, hR, by omega, by unfold maxLen; omega, rfl, rfl⟩⟩
theorem info_str : (Tryz.prog.info? 9).map (fun i => (i.zero, i.size, i.bytes)) = some (some (.string ByteArray.empty), 1, 16) := by kernel_rfl
end Go.Proofs.YtcaigcmbgihhkaaGreatDoor
namespace Go.Proofs.YtcaigcmbgihhkaaGreatDoor
open Go Go.RowKit
set_option linter.unusedVariables false
set_option linter.unusedSimpArgs false
theorem rep_get {m : Nat} {o : Nat} {nb : List UInt8} (h : repD[m]? = some (o, nb)) : o < 256 ∧ nb.length = 2 ∧ repP (m + 1) o = none ∧ repD.drop m = (o, nb) :: repD.drop (m + 1) := by
  have hm : m < 4 := (List.getElem?_eq_some_iff.1 h).1
  rcases m with _ | _ | _ | _ | m
  · simp [repD] at h; obtain ⟨rfl, rfl⟩ := h; decide
  · simp [repD] at h; obtain ⟨rfl, rfl⟩ := h; decide
  · simp [repD] at h; obtain ⟨rfl, rfl⟩ := h; decide
  · simp [repD] at h; obtain ⟨rfl, rfl⟩ := h; decide
  · omega
theorem addr_add_nil (b : Addr) : b.add 0 = b := by unfold Addr.add; simp
theorem conv_new (W : World) (s : ByteArray) (hs : s.size ≤ 1000) : ∃ cap W5, (convert 9 68 (.string s)).run Tryz.prog W = .ok (.slice (some ⟨W.heap.size, 0, none⟩) s.size cap) W5 ∧ s.size ≤ cap ∧ cap ≤ maxLen ∧ W5.heap.size = W.heap.size + 1 ∧ Below W.heap.size W W5 ∧ (∀ j b, s.data.toList[j]? = some b → W5.cell? ⟨W.heap.size, j, none⟩ = some (.int .u8 (b.toNat : Int))) := by
  refine ⟨grownCap W s.size 0 5, Lib.bytesWorld W 5 s, Lib.run_convert_string_bytes W _ _ _ s Tryz.underlying9 Tryz.underlying68 Tryz.underlying5, ?_, ?_, Lib.bytesWorld_size _ _ _, ?_, ?_⟩
  · exact grownCap_ge _ _ _ _
  · exact grownCap_le_maxLen _ _ _ _ (by unfold maxLen; omega)
  · exact ⟨rfl, rfl, rfl, by rw [Lib.bytesWorld_size]; omega, fun k hk => Lib.bytesWorld_at_old W _ s k hk⟩
  · intro j b hb
    have hj : j < s.size := (List.getElem?_eq_some_iff.1 hb).1
    rw [Lib.bytesWorld_cell W _ s j hj]
    simp [hb]
theorem conv_str (W : World) (o : Nat) (ho : o < 256) : (convert 68 9 (.slice (some ⟨W.heap.size, 0, none⟩) 1 1)).run Tryz.prog (W.alloc (.cells #[.int .u8 (o : Int)] 5)) = .ok (.string ⟨#[UInt8.ofNat o]⟩) (W.alloc (.cells #[.int .u8 (o : Int)] 5)) :=
  run_convert_bytes_back (P := Tryz.prog) (W.alloc (.cells #[.int .u8 (o : Int)] 5)) 68 9 5 ⟨W.heap.size, 0, none⟩ 1 [UInt8.ofNat o] Tryz.underlying68 Tryz.underlying5 Tryz.underlying9 (fun j hj => by
    obtain rfl : j = 0 := by simpa using hj
    rw [addr_add_nil, (Blk.new W 5 #[.int .u8 (o : Int)]).cell]
    simp
    omega)
theorem size_set1 (W : World) (p : Addr) (u : Value) : (W.setCell p u).heap.size = W.heap.size := by simp [World.setCell]
theorem own_later {W W' : World} {base n size : Nat} {e : TypeId} {v : Value} {xs : List Value} (hb : Below W.heap.size W W') (h : W.ownsRow base e size v n xs) : W'.ownsRow base e size v n xs := by
  obtain ⟨h1, h2⟩ := h
  refine ⟨h1, h2.imp id ?_⟩
  rintro ⟨g, cap, cur, a1, a2, a3, a4⟩
  exact ⟨g, cap, cur, a1, a2, (hb.block g (Array.getElem?_eq_some_iff.1 a3).1).trans a3, a4⟩
theorem rep_step {wr W5 : World} {R q o p n3 cap5 : Nat} {nb : List UInt8} {cs : Array Value} (hd : repD[q]? = some (o, nb)) (hp : p = 4 - (q + 1)) (hsz : cs.size = 257) (hsl : ∀ c, c < 256 → SlIs wr (R + 1) cs[c]? (repP (q + 1) c))
    (hB5 : Blk W5 (R + 1) 230 (cs.setIfInBounds 256 (.slice (some ⟨R, 0, none⟩) (p + 1) 4))) (h1 : wr.heap.size ≤ n3) (hblk : ∀ k, R + 1 < k → k < wr.heap.size → W5.heap[k]? = wr.heap[k]?) (h3 : W5.heap.size = n3 + 1)
    (hc : ∀ j b, nb[j]? = some b → W5.cell? ⟨n3, j, none⟩ = some (.int .u8 (b.toNat : Int))) (hcap : nb.length ≤ cap5) (hcm : cap5 ≤ maxLen) (hRB : R + 1 < n3)
    (hown : W5.ownsRow R 9 1 (.slice (some ⟨R, 0, none⟩) (p + 1) 4) (p + 1) (((repD.drop (q + 1)).reverse.map fun d => Value.string ⟨#[UInt8.ofNat d.1]⟩) ++ [.string ⟨#[UInt8.ofNat o]⟩])) :
    RepIs (W5.setCell ⟨R + 1, o, none⟩ (.slice (some ⟨n3, 0, none⟩) 2 cap5)) R (R + 1) q := by
  obtain ⟨ho, hnb, hp0, hdrop⟩ := rep_get hd
  have hpq : p + 1 = 4 - q := by have := (List.getElem?_eq_some_iff.1 hd).1; have h4 : repD.length = 4 := rfl; omega
  refine ⟨_, hB5.set o _, by simp [hsz], fun c hcc => ?_, ?_, by omega, ?_⟩
  · have hrp : repP q c = if o = c then some nb else repP (q + 1) c := by
      unfold repP
      rw [hdrop, List.find?_cons]
      by_cases e : o = c
      · simp [e]
      · rw [if_neg e, show ((o, nb).1 == c) = false from beq_eq_false_iff_ne.2 e]
    rw [hrp]
    by_cases e : o = c
    · subst e
      rw [if_pos rfl]
      refine ⟨n3, cap5, ?_, by omega, by rw [size_set1]; omega, hcap, hcm, fun j b hb => ?_⟩
      · rw [hnb]; exact Array.getElem?_setIfInBounds_self_of_lt (by simp; omega)
      · exact (World.cell?_setCell_other W5 ⟨R + 1, o, none⟩ ⟨n3, j, none⟩ _ (by simp <;> omega)).trans (hc j b hb)
    · rw [if_neg e, Array.getElem?_setIfInBounds_ne (by omega), Array.getElem?_setIfInBounds_ne (by omega)]
      refine (hsl c hcc).keep (by rw [size_set1]; omega) (fun k hk hlt => ?_)
      exact (Below.heap_setCell W5 ⟨R + 1, o, none⟩ _ k (by show k ≠ R + 1; omega)).trans (hblk k hk hlt)
  · rw [Array.getElem?_setIfInBounds_ne (by omega), Array.getElem?_setIfInBounds_self_of_lt (by omega), hpq]
  · rw [hdrop, List.reverse_cons, List.map_append, ← hpq]
    exact hown.kept (row := some (R + 1)) ⟨rfl, rfl, rfl, by simp [World.setCell], fun k _ hk => Below.heap_setCell _ _ _ k (fun e => hk (by rw [e]))⟩ (.inr (by simp [Value.ownBlock]))
set_option maxRecDepth 100000 in
set_option maxHeartbeats 4000000 in
theorem build_any (w : World) (b g c : Nat) (hg : g < w.heap.size)
    (h4 : w.cell? ⟨b, 4, none⟩ = some (.slice (some ⟨g, 0, none⟩) 8 c))
    (hD : ∀ m o nb, repD[m]? = some (o, nb) → w.cell? ⟨g, 2 * m, none⟩ = some (.string ⟨#[UInt8.ofNat o]⟩) ∧ w.cell? ⟨g, 2 * m + 1, none⟩ = some (.string ⟨nb.toArray⟩)) :
    Calls Tryz.prog 136 #[.pointer (some ⟨b, 0, none⟩)] w fun e w' => ∃ R B, e = .returned (.iface 231 (.pointer (some ⟨B, 0, none⟩))) ∧ w.heap.size ≤ R ∧ RepIs w' R B 0 ∧ Below w.heap.size w w' := by
  obtain ⟨i0, hi, hz0, hz1, hz2⟩ := info_parts info_str
  have hmk : ∀ w : World, (Instr.makeSlice 106 (.int .i64 0) (.int .i64 4)).run Tryz.prog w = .ok (.slice (some ⟨w.heap.size, 0, none⟩) 0 4) (w.alloc (.cells #[.string ⟨#[]⟩, .string ⟨#[]⟩, .string ⟨#[]⟩, .string ⟨#[]⟩] 9)) := fun _ => by kernel_rfl
  have s0 := (hD 0 _ _ rfl).1
  have s1 := (hD 0 _ _ rfl).2
  have s2 := (hD 1 _ _ rfl).1
  have s3 := (hD 1 _ _ rfl).2
  have s4 := (hD 2 _ _ rfl).1
  have s5 := (hD 2 _ _ rfl).2
  have s6 := (hD 3 _ _ rfl).1
  have s7 := (hD 3 _ _ rfl).2
  simp only [Nat.reduceMul, Nat.reduceAdd, UInt8.reduceOfNat] at s0 s1 s2 s3 s4 s5 s6 s7
  obtain ⟨W2, hst, k1, k2, k3, k4⟩ := rep_store Tryz.prog w [.string ⟨#[]⟩, .string ⟨#[]⟩, .string ⟨#[]⟩, .string ⟨#[]⟩]
  have K0 := Lib.hid (rep_start k1 k2)
  have KB := Lib.hid k3
  have KZ := Lib.hid k4
  have HD := Lib.hid hD
  clear hD k1 k2 k3 k4
  go_enter Tryz.func136, Tryz.ntmps136
  go_wp2_with fail
  refine wp_loop_rounds 5 ?_
  rw [rounds_succ]
  go_wp2_with fail
  (try simp only [Exit.then])
  rw [rounds_succ]
  go_wp2_with fail
  (try simp only [Exit.then])
  rw [rounds_succ]
  go_wp2_with fail
  (try simp only [Exit.then])
  rw [rounds_succ]
  go_wp2_with fail
  (try simp only [Exit.then])
  rw [rounds_succ]
  go_wp2_with fail
  clear hst s0 s1 s2 s3 s4 s5 s6 s7
  go_loopw [12] (fun s12 wr => ∃ m : Nat, m ≤ 4 ∧ s12 = .int .i64 (2 * (m : Int) - 2) ∧ Hid (RepIs wr w.heap.size (w.heap.size + 1) m) ∧ Hid (Below w.heap.size w wr)) (fun s12 _ => (intOf s12 + 2).toNat)
  case atStart => exact ⟨4, by omega, rfl, K0, KB⟩
  case round =>
    obtain ⟨m, hm, rfl, hR, hBl⟩ := hrel
    by_cases hm0 : m = 0
    · subst hm0
      go_wp2_with fail
      go_ret
      exact ⟨_, _, rfl, Nat.le_refl _, hR.out, hBl.out⟩
    · obtain ⟨q, rfl⟩ : ∃ q, m = q + 1 := ⟨m - 1, by omega⟩
      have hjj : ∃ j : Nat, j = 2 * q := ⟨_, rfl⟩
      obtain ⟨j, hj⟩ := hjj
      have hi : 2 * ((q + 1 : Nat) : Int) - 2 = (j : Int) := by omega
      obtain ⟨o, nb, hd⟩ : ∃ o nb, repD[q]? = some (o, nb) := ⟨_, _, List.getElem?_eq_getElem (show q < repD.length from by show q < 4; omega)⟩
      obtain ⟨ho, hnb, hp0, hdrop⟩ := rep_get hd
      have hcc := HD.out q o nb hd
      rw [← hj] at hcc
      obtain ⟨cs, hB, hsz, hsl, h256, hRB, hown⟩ := hR.out
      have c0 : wr.cell? ⟨g, j, none⟩ = some (.string ⟨#[UInt8.ofNat o]⟩) := (hBl.out.cell (p := ⟨g, j, none⟩) hg).trans hcc.1
      have c1 : wr.cell? ⟨g, j + 1, none⟩ = some (.string ⟨nb.toArray⟩) := (hBl.out.cell (p := ⟨g, j + 1, none⟩) hg).trans hcc.2
      have cB : wr.cell? ⟨w.heap.size + 1, o, none⟩ = some (.slice none 0 0) := by rw [hB.cell]; have := hsl o ho; rw [hp0] at this; exact this
      have cT : wr.cell? ⟨w.heap.size + 1, 256, none⟩ = some (.slice (some ⟨w.heap.size, 0, none⟩) (4 - (q + 1)) 4) := by rw [hB.cell]; exact h256
      obtain ⟨p, hp⟩ : ∃ p, p = 4 - (q + 1) := ⟨_, rfl⟩
      rw [← hp] at cT hown h256
      have H256 := Lib.hid h256
      have hco : cs[o]? = some (.slice none 0 0) := by have := hsl o ho; rw [hp0] at this; exact this
      have HCO := Lib.hid hco
      have HSLI := Lib.hid hsl
      clear hco
      have hp3 : p + 1 ≤ 4 := by omega
      have HP := Lib.hid hp
      clear hp
      have hj8 : j + 2 ≤ 8 := by omega
      have hoz : (UInt8.ofNat o).toNat = o := by simp; omega
      have HJ := Lib.hid hj
      have HDD := Lib.hid hd
      have hob : ∀ h, ((⟨#[UInt8.ofNat o]⟩ : ByteArray)[0]'h).toNat = o := fun h => hoz
      rw [hi]
      clear hi hj hd hp0 hdrop hcc hsl h256 hoz
      have heqn := fun (w : World) => Lib.run_eql_slice_nil (P := Tryz.prog) w 68 5 none 0 0 0 0 Tryz.underlying68
      have hcs := conv_str wr o ho
      have cB1 : ((wr.alloc (.cells #[.int .u8 (o : Int)] 5)).alloc (.cells #[.string ⟨#[UInt8.ofNat o]⟩] 9)).cell? ⟨w.heap.size + 1, o, none⟩ = some (.slice none 0 0) := (((Below.refl _ wr).alloc (Nat.le_refl _) _).alloc (by simp) _).cell (p := ⟨w.heap.size + 1, o, none⟩) hB.lt |>.trans cB
      have HB := Lib.hid hB
      have HSL := Lib.hid hown
      clear hB
      have hc1 := cell_one_new (wr.alloc (.cells #[.int .u8 (o : Int)] 5)) (.string ⟨#[UInt8.ofNat o]⟩) 9
      rw [World.size_alloc] at hc1
      have HC1 := Lib.hid hc1
      have HSZ := Lib.hid hsz
      have HRB := Lib.hid hRB
      clear hc1 hsz hown hRB
      go_wp2_with (at_builtin; refine wpList_append_fits _ rfl _ _ 106 rfl w.heap.size 9 i0 1 Tryz.underlying106 hi hz1 w.heap.size _ 4 _ rfl ((HSL.out.alloc _).alloc _) ⟨wr.heap.size + 1, 0, none⟩ 1 1 [.string ⟨#[UInt8.ofNat o]⟩] rfl rfl HC1.out (by simp [Value.oneCell']) (by omega) ?_; intro w3 hown3 hgrow3; have hB3 := ((HB.out.alloc (.cells #[.int .u8 (o : Int)] 5)).alloc (.cells #[.string ⟨#[UInt8.ofNat o]⟩] 9)).kept hgrow3 (by simp); obtain ⟨cap5, W5, hconv, hk1, hk2, hk3, hk4, hk5⟩ := conv_new (w3.setCell ⟨w.heap.size + 1, 256, none⟩ (.slice (some ⟨w.heap.size, 0, none⟩) (p + 1) 4)) ⟨nb.toArray⟩ (by show nb.length ≤ 1000; omega); have hB5 := (hB3.set 256 (.slice (some ⟨w.heap.size, 0, none⟩) (p + 1) 4)).below hk4 (by have := hB3.lt; simp; omega); have f3 := hB3.frozen 256; have x3 := (hB3.cell 256).trans H256.out; have f5 := hB5.frozen o; have x5 := (hB5.cell o).trans ((Array.getElem?_setIfInBounds_ne (by omega)).trans HCO.out); have HB3 := Lib.hid hB3; have HB5 := Lib.hid hB5; have HO3 := Lib.hid hown3; have HG3 := Lib.hid hgrow3; have HK3 := Lib.hid hk3; have HK4 := Lib.hid hk4; have HK5 := Lib.hid hk5; clear hB3 hB5 hown3 hgrow3 hk3 hk4 hk5 cB cT cB1 c0 c1)
      go_roundw
      case rel =>
        obtain ⟨q0, hq0⟩ : ∃ q0, q0 = q := ⟨_, rfl⟩
        have hs3 : wr.heap.size ≤ w3.heap.size := by have := HG3.out.size; simp at this; omega
        have hn3 : w.heap.size + 1 < w3.heap.size := by have := HB.out.lt; have := HG3.out.size; simp at this; omega
        have hk3 := HK3.out
        have hsz5 : W5.heap.size = w3.heap.size + 1 := by have := HK3.out; simpa [World.setCell] using this
        refine ⟨q, by omega, by have := HJ.out; congr 1; omega, Lib.hid (rep_step HDD.out HP.out HSZ.out HSLI.out HB5.out hs3 (fun k hk hlt => ?_) hsz5 (fun j b hb => ?_) hk1 hk2 hn3 ?_), Lib.hid ?_⟩
        · rw [HK4.out.block k (by rw [size_set1]; omega), Below.heap_setCell _ ⟨w.heap.size + 1, 256, none⟩ _ k (by show k ≠ w.heap.size + 1; omega), HG3.out.block k (by simp; omega) (by simp; omega)]
          exact (((Below.refl _ wr).alloc (Nat.le_refl _) _).alloc (by simp) _).block k hlt
        · have := HK5.out j b hb
          simpa [World.setCell] using this
        · refine own_later HK4.out ?_
          exact HO3.out.kept (row := some (w.heap.size + 1)) ⟨rfl, rfl, rfl, by simp [World.setCell], fun k _ hk => Below.heap_setCell _ _ _ k (fun e => hk (by rw [e]))⟩ (.inr (by simp [Value.ownBlock]))
        · refine Below.setCell ?_ (by simp) _
          refine Below.trans ?_ (HK4.out.mono (by rw [size_set1]; omega))
          refine Below.setCell ?_ (by simp) _
          exact (((hBl.out.alloc hBl.out.size _).alloc (by simp; have := hBl.out.size; omega) _)).grown HG3.out (by simp; have := hBl.out.size; omega) (fun k e => by cases e; omega)
      case measure => simp [intOf]; omega
end Go.Proofs.YtcaigcmbgihhkaaGreatDoor
namespace Go.Proofs.YtcaigcmbgihhkaaGreatDoor
open Go Go.RowKit
set_option linter.unusedVariables false
set_option linter.unusedSimpArgs false
theorem RepIs.keep {W W' : World} {R B m : Nat} (h : RepIs W R B m) (hs : W.heap.size ≤ W'.heap.size) (hk : ∀ k, R ≤ k → k < W.heap.size → W'.heap[k]? = W.heap[k]?) : RepIs W' R B m := by
  obtain ⟨cs, h1, h2, h3, h4, h5, h6⟩ := h
  refine ⟨cs, (hk B (by omega) h1.lt).trans h1, h2, fun c hc => (h3 c hc).keep hs (fun k a b => hk k (by omega) b), h4, h5, ?_⟩
  obtain ⟨a1, a2⟩ := h6
  refine ⟨a1, a2.imp id ?_⟩
  rintro ⟨g, cap, cur, b1, b2, b3, b4⟩
  exact ⟨g, cap, cur, b1, b2, (hk g b2 (Array.getElem?_eq_some_iff.1 b3).1).trans b3, b4⟩
def ReplNew (W : World) (b : Nat) (x0 x1 : Value) : Prop := ∃ g c x3, Blk W b 166 #[x0, x1, .int .u32 0, x3, .slice (some ⟨g, 0, none⟩) 8 c] ∧ b ≠ g ∧ g < W.heap.size ∧
  ∀ m o nb, repD[m]? = some (o, nb) → W.cell? ⟨g, 2 * m, none⟩ = some (.string ⟨#[UInt8.ofNat o]⟩) ∧ W.cell? ⟨g, 2 * m + 1, none⟩ = some (.string ⟨nb.toArray⟩)
def ReplDone (W : World) (b : Nat) (x0 x1 : Value) (R B : Nat) : Prop := Blk W b 166 #[x0, x1, .int .u32 0, .iface 231 (.pointer (some ⟨B, 0, none⟩)), .slice none 0 0] ∧ b < R ∧ RepIs W R B 0
set_option maxRecDepth 100000 in
set_option maxHeartbeats 1000000 in
theorem buildOnce_any (w : World) (b : Nat) (x0 x1 : Value) (h : ReplNew w b x0 x1) :
    Calls Tryz.prog 98 #[.pointer (some ⟨b, 0, none⟩)] w fun e w' => e = .returned (.tuple #[]) ∧ (∃ R B, w.heap.size ≤ R ∧ ReplDone w' b x0 x1 R B) ∧ Touch (fun k => k = b) w w' := by
  obtain ⟨g, c, x3, hb, hbg, hg, hD⟩ := h
  have HD := Lib.hid hD
  have HB := Lib.hid hb
  have c4 : w.cell? ⟨b, 4, none⟩ = some (.slice (some ⟨g, 0, none⟩) 8 c) := hb.cell 4
  clear hD hb
  go_enter Tryz.func98, Tryz.ntmps98
  go_wp2_with fail
  refine (build_any w b g c hg c4 HD.out).mono ?_
  rintro e w1 ⟨R, B, rfl, hR, hrep, hbl⟩
  have hb1 := HB.out.below hbl HB.out.lt
  have d3 : w1.cell? ⟨b, 3, none⟩ = some x3 := hb1.cell 3
  have d4 : w1.cell? ⟨b, 4, none⟩ = some (.slice (some ⟨g, 0, none⟩) 8 c) := hb1.cell 4
  have f3 : w1.frozen? ⟨b, 3, none⟩ = false := hb1.frozen 3
  have f4 : w1.frozen? ⟨b, 4, none⟩ = false := hb1.frozen 4
  have HB1 := Lib.hid hb1
  have HRP := Lib.hid hrep
  have HBL := Lib.hid hbl
  clear hb1 hrep hbl c4
  go_wp2
  go_end0
  refine ⟨rfl, ⟨R, B, hR, ?_, by have := HB.out.lt; omega, ?_⟩, ?_⟩
  · have := (HB1.out.set 3 (.iface 231 (.pointer (some ⟨B, 0, none⟩)))).set 4 (.slice none 0 0)
    simpa using this
  · have hlt := HB.out.lt
    exact HRP.out.keep (by rw [size_set1, size_set1]; omega) (fun k hk _ => (Below.heap_setCell _ ⟨b, 4, none⟩ _ k (by show k ≠ b; omega)).trans (Below.heap_setCell _ ⟨b, 3, none⟩ _ k (by show k ≠ b; omega)))
  · exact ((Touch.of_below (S := fun k => k = b) HBL.out).setCell (p := ⟨b, 3, none⟩) (.inl rfl) _).setCell (p := ⟨b, 4, none⟩) (.inl rfl) _
theorem bload_any (a : Addr) (x : Int) (w : World) (hc : w.cell? a = some (.int .u32 x)) :
    Calls Tryz.prog 134 #[.pointer (some a)] w fun e w' => e = .returned (.bool (x != 0)) ∧ w = w' := by
  have hl := run_call_load (P := Tryz.prog) Tryz.func164 (by kernel_rfl) (by kernel_rfl) (by kernel_rfl) .u32 (by kernel_rfl) (w := w) (a := a) (x := x) hc
  go_enter Tryz.func134, Tryz.ntmps134
  go_wp2_with fail
  go_ret
  exact ⟨rfl, rfl⟩
theorem ReplNew.set1 {w : World} {b : Nat} {x0 x1 : Value} (h : ReplNew w b x0 x1) (y : Value) : ReplNew (w.setCell ⟨b, 1, none⟩ y) b x0 y := by
  obtain ⟨g, c, x3, hb, hbg, hg, hD⟩ := h
  refine ⟨g, c, x3, by simpa using hb.set 1 y, hbg, by rw [size_set1]; exact hg, fun m o nb hd => ?_⟩
  obtain ⟨h1, h2⟩ := hD m o nb hd
  exact ⟨(World.cell?_setCell_other w ⟨b, 1, none⟩ ⟨g, 2 * m, none⟩ _ (by simp [hbg])).trans h1, (World.cell?_setCell_other w ⟨b, 1, none⟩ ⟨g, 2 * m + 1, none⟩ _ (by simp [hbg])).trans h2⟩
theorem ReplNew.cells {w : World} {b : Nat} {x0 x1 : Value} (h : ReplNew w b x0 x1) : w.cell? ⟨b, 0, none⟩ = some x0 ∧ w.cell? ⟨b, 1, none⟩ = some x1 ∧ w.frozen? ⟨b, 0, none⟩ = false ∧ w.frozen? ⟨b, 1, none⟩ = false ∧ b < w.heap.size := by
  obtain ⟨g, c, x3, hb, _⟩ := h
  exact ⟨hb.cell 0, hb.cell 1, hb.frozen 0, hb.frozen 1, hb.lt⟩
theorem ReplDone.set {w : World} {b R B : Nat} {x0 x1 : Value} (h : ReplDone w b x0 x1 R B) (y0 y1 : Value) : ReplDone ((w.drew.setCell ⟨b, 0, none⟩ y0).setCell ⟨b, 1, none⟩ y1) b y0 y1 R B := by
  obtain ⟨hb, hR, hr⟩ := h
  refine ⟨by simpa using (hb.drew.set 0 y0).set 1 y1, hR, hr.keep (by rw [size_set1, size_set1]; exact Nat.le_refl _) (fun k hk _ => ?_)⟩
  exact (Below.heap_setCell _ ⟨b, 1, none⟩ _ k (by show k ≠ b; omega)).trans (Below.heap_setCell _ ⟨b, 0, none⟩ _ k (by show k ≠ b; omega))
set_option maxRecDepth 100000 in
set_option maxHeartbeats 2000000 in
theorem doSlow_any (w : World) (b : Nat) (h : ReplNew w b (.int .u32 0) (.int .i32 0)) :
    Calls Tryz.prog 135 #[.pointer (some ⟨b, 0, none⟩), .func (.func 98) #[.pointer (some ⟨b, 0, none⟩)] #[]] w fun e w' => e = .returned (.tuple #[]) ∧
      (∃ R B, w.heap.size ≤ R ∧ ReplDone w' b (.int .u32 1) (.int .i32 0) R B) ∧ Touch (fun k => k = b) w w' := by
  obtain ⟨c0, c1, f0, f1, hlt⟩ := h.cells
  have h1 := h.set1 (.int .i32 1)
  obtain ⟨d0, d1, g0, g1, _⟩ := h1.cells
  have H1 := Lib.hid h1
  have hnot : ∀ (x : Bool) (w : World), (Op.unary .not (.bool x)).run Tryz.prog w = .ok (.bool (!x)) w := fun _ _ => rfl
  clear h h1
  go_enter_defers Tryz.func135, Tryz.ntmps135
  go_wp2_with (first | (go_at_call 165; refine (lock_free ⟨b, 1, none⟩ _ c1 f1).mono ?_; rintro e w' ⟨rfl, rfl⟩) | (go_at_call 134; refine (bload_any ⟨b, 0, none⟩ 0 _ d0).mono ?_; rintro e w' ⟨rfl, rfl⟩) | (go_at_call 98; refine (buildOnce_any _ b _ _ H1.out).mono ?_; rintro e w2 ⟨rfl, ⟨R, B, hR, hdone⟩, ht⟩; have HDN := Lib.hid hdone; have HT := Lib.hid ht; clear hdone ht))
  have hcd := (show Blk w2 b 166 _ from HDN.out.1)
  have e0 : w2.cell? ⟨b, 0, none⟩ = some (.int .u32 0) := hcd.cell 0
  have e1 : w2.cell? ⟨b, 1, none⟩ = some (.int .i32 1) := hcd.cell 1
  have k0 := hcd.frozen 0
  have k1 := hcd.frozen 1
  refine leaves_cons (f := 167) (args := #[.pointer (some ⟨b, 0, none⟩), .bool true]) (by simp) (by simp [go_sem]) ?_
  refine (store_deferred ⟨b, 0, none⟩ (.int .u32 0) .returning _ e0 k0).mono ?_
  rintro e u' w'' ⟨rfl, rfl, rfl⟩
  refine leaves_cons (f := 166) (args := #[.pointer (some ⟨b, 1, none⟩)]) (by simp [settle]) (by simp [go_sem]) ?_
  refine (unlock_deferred ⟨b, 1, none⟩ _ _ ?_ (by simp [k1])).mono ?_
  · refine (World.cell?_setCell_other _ ⟨b, 0, none⟩ ⟨b, 1, none⟩ _ (by simp)).trans ?_
    rw [World.cell?_drew]
    exact e1
  rintro e u' w'' ⟨rfl, rfl, rfl⟩
  have hdn := HDN.out.set (.int .u32 1) (.int .i32 0)
  have ht := (((((Touch.refl (fun k => k = b) w).setCell (p := ⟨b, 1, none⟩) (.inl rfl) (.int .i32 1)).trans HT.out (fun i hi => .inl hi)).drew).setCell (p := ⟨b, 0, none⟩) (.inl rfl) (.int .u32 1)).setCell (p := ⟨b, 1, none⟩) (.inl rfl) (.int .i32 0)
  have hR' : w.heap.size ≤ R := by rw [size_set1] at hR; exact hR
  have HH := Lib.hid (show (∃ R B, w.heap.size ≤ R ∧ ReplDone _ b (.int .u32 1) (.int .i32 0) R B) ∧ Touch (fun k => k = b) w _ from ⟨⟨R, B, hR', hdn⟩, ht⟩)
  clear ht hdn hR' e0 e1 k0 k1 hcd
  simp [Leaves, settle, results, Tryz.results135]
  obtain ⟨⟨R, B, x1, x2⟩, x3⟩ := HH.out
  exact ⟨⟨R, x1, B, x2⟩, x3⟩
set_option maxRecDepth 100000 in
set_option maxHeartbeats 1000000 in
theorem do_any (w : World) (b : Nat) (h : ReplNew w b (.int .u32 0) (.int .i32 0)) :
    Calls Tryz.prog 97 #[.pointer (some ⟨b, 0, none⟩), .func (.func 98) #[.pointer (some ⟨b, 0, none⟩)] #[]] w fun e w' => e = .returned (.tuple #[]) ∧
      (∃ R B, w.heap.size ≤ R ∧ ReplDone w' b (.int .u32 1) (.int .i32 0) R B) ∧ Touch (fun k => k = b) w w' := by
  obtain ⟨c0, c1, f0, f1, hlt⟩ := h.cells
  have H := Lib.hid h
  have hnot : ∀ (x : Bool) (w : World), (Op.unary .not (.bool x)).run Tryz.prog w = .ok (.bool (!x)) w := fun _ _ => rfl
  clear h
  go_enter Tryz.func97, Tryz.ntmps97
  go_wp2_with (first | (go_at_call 134; refine (bload_any ⟨b, 0, none⟩ 0 _ c0).mono ?_; rintro e w' ⟨rfl, rfl⟩) | (go_at_call 135; refine (doSlow_any _ b H.out).mono ?_; rintro e w2 ⟨rfl, hq⟩; have HQ := Lib.hid hq; clear hq))
  go_end0
  exact ⟨rfl, HQ.out⟩
end Go.Proofs.YtcaigcmbgihhkaaGreatDoor
