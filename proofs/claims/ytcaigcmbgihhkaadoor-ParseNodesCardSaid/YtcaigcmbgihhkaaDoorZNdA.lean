/-
  Part of a proof: NdA.
-/
import Derived.Test.YtcaigcmbgihhkaaDoorZSmC
import Derived.Test.YtcaigcmbgihhkaaDoorZMem
import Derived.LoopTactic
namespace Go.Proofs.YtcaigcmbgihhkaaDoor
open Go Go.RowKit Go.Shelf
set_option linter.unusedVariables false
set_option linter.unusedSimpArgs false
attribute [local go_sem] Oper.semAt_some
inductive KidsG (W : World) : List NodeD → Value → Prop where
  | mk (ks : List NodeD) (ao : Option Addr) (c : Nat) (h1 : ks.length ≤ c) (h2 : c ≤ maxLen) (A : Addr) (ha : ks ≠ [] → ao = some A) (kv : Nat → Value)
      (hk : ∀ j k, ks[j]? = some k → KidsG W k.kids (kv j))
      (hc : ∀ j k i u, ks[j]? = some k → (ncells k (kv j))[i]? = some u → W.cell? (A.add (j * 6 + i)) = some u) : KidsG W ks (.slice ao ks.length c)
theorem KidsG.nil (W : World) : KidsG W [] (.slice none 0 0) := .mk [] none 0 (Nat.le_refl _) (Nat.zero_le _) ⟨0, 0, none⟩ (fun h => absurd rfl h) (fun _ => .slice none 0 0) (fun j k h => by simp at h) (fun j k i u h => by simp at h)
theorem KidsG.later {W W' : World} {l : List NodeD} {v : Value} (h : KidsG W l v) (hb : Below W.heap.size W W') : KidsG W' l v := by
  induction h with
  | mk ks ao c h1 h2 A ha kv hk hc ih =>
    refine .mk ks ao c h1 h2 A ha kv ih (fun j k i u hj hu => ?_)
    have h := hc j k i u hj hu
    exact (hb.cell (World.block_lt_of_cell? W _ h)).trans h
theorem KidsG.form {W : World} {ks : List NodeD} {v : Value} (h : KidsG W ks v) : ∃ ao c, v = .slice ao ks.length c := by
  cases h; exact ⟨_, _, rfl⟩
theorem KidsG.len {W : World} {l : List NodeD} {v : Value} (h : KidsG W l v) : l.length ≤ maxLen := by
  cases h; omega
theorem KidsG.six {W : World} {l : List NodeD} {v : Value} {k : Nat} {a : NodeD} (h : KidsG W l v) (hk : l[k]? = some a) : ∃ A c kv, v = .slice (some A) l.length c ∧ l.length ≤ c ∧ c ≤ maxLen ∧ KidsG W a.kids kv ∧
    W.cell? (A.add (k * 6)) = some (.int .i64 a.op) ∧ W.cell? ⟨(A.add (k * 6)).block, (A.add (k * 6)).off + 1, none⟩ = some (.string (mkB a.text)) ∧ W.cell? ⟨(A.add (k * 6)).block, (A.add (k * 6)).off + 2, none⟩ = some (.string (mkB a.type)) ∧
    W.cell? ⟨(A.add (k * 6)).block, (A.add (k * 6)).off + 3, none⟩ = some (.int .i64 a.n) ∧ W.cell? ⟨(A.add (k * 6)).block, (A.add (k * 6)).off + 4, none⟩ = some kv ∧ W.cell? ⟨(A.add (k * 6)).block, (A.add (k * 6)).off + 5, none⟩ = some (.int .i64 a.at_) ∧ (A.add (k * 6)).block < W.heap.size := by
  cases h with
  | mk ks ao c h1 h2 A ha kv hkk hc =>
    have hne : l ≠ [] := by rintro e; rw [e] at hk; simp at hk
    have c0 := hc k a 0 _ hk rfl
    rw [Nat.add_zero] at c0
    refine ⟨A, c, kv k, by rw [ha hne], h1, h2, hkk k a hk, c0, ?_, ?_, ?_, ?_, ?_, World.block_lt_of_cell? W _ c0⟩
    · rw [← addr_field A (k * 6) 1 (by omega)]; exact hc k a 1 _ hk rfl
    · rw [← addr_field A (k * 6) 2 (by omega)]; exact hc k a 2 _ hk rfl
    · rw [← addr_field A (k * 6) 3 (by omega)]; exact hc k a 3 _ hk rfl
    · rw [← addr_field A (k * 6) 4 (by omega)]; exact hc k a 4 _ hk rfl
    · rw [← addr_field A (k * 6) 5 (by omega)]; exact hc k a 5 _ hk rfl
def NodeG (W : World) (v : Value) (n : NodeD) : Prop := ∃ kv, v = nodeV n kv ∧ KidsG W n.kids kv
def SizeC (n : NodeD) : Prop := ∀ W va (d : Nat), d ≤ 300 → KidsG W n.kids va → Calls Tryd.prog 7 #[nodeV n va, .int .i64 d] W fun e W' => ∃ s : Nat, e = .returned (.int .i64 s) ∧ 1 ≤ s ∧ s ≤ 301 + 300 * (300 - d) ∧ (s ≤ 300 → cntN n ≤ s) ∧ Below W.heap.size W W'
theorem cntL_take {l : List NodeD} {k : Nat} {a : NodeD} (h : l[k]? = some a) : cntL (l.take (k + 1)) = cntL (l.take k) + cntN a := by
  have : l.take (k + 1) = l.take k ++ [a] := by rw [List.take_add_one, h]; rfl
  rw [this, cntL_app]
  simp [cntL]
set_option maxRecDepth 100000 in
set_option maxHeartbeats 4000000 in
theorem size_step (n : NodeD) (HF : ∀ x ∈ n.kids, SizeC x) : SizeC n := fun W va d hd ha => by
  obtain ⟨xa, xc, rfl⟩ := ha.form
  have hlen := ha.len
  have HA := Lib.hid ha
  have HK := Lib.hid HF
  obtain ⟨o, t, y, m, ks, p⟩ := n
  simp only [NodeD.kids] at hlen HA HK
  clear ha HF
  dsimp only [nodeV, NodeD.op, NodeD.text, NodeD.type, NodeD.n, NodeD.at_, NodeD.kids]
  obtain ⟨n, hn⟩ : ∃ n, n = ks.length := ⟨_, rfl⟩
  rw [← hn] at hlen HA ⊢
  have hl3 : (n : Int) ≤ 9223372036854775807 := by unfold maxLen at hlen; omega
  have HN := Lib.hid hn
  clear hn hlen
  have hcn : cntN (.mk o t y m ks p) = 1 + cntL ks := by simp [cntN]
  rw [hcn]
  clear hcn
  have q0 := Lib.hid (Blk.new W 24 #[.int .i64 o, .string (mkB t), .string (mkB y), .int .i64 m, .slice xa n xc, .int .i64 p])
  have hb := Lib.hid ((Below.refl W.heap.size W).alloc (Nat.le_refl _) (.cells #[.int .i64 o, .string (mkB t), .string (mkB y), .int .i64 m, .slice xa n xc, .int .i64 p] 24))
  go_enter Tryd.func7, Tryd.ntmps7
  go_wp2_with fail
  go_loopw [5, 6] (fun s5 s6 wr => ∃ (k i : Nat), i ≤ n ∧ s5 = .int .i64 (k : Int) ∧ s6 = .int .i64 (i : Int) ∧ 1 ≤ k ∧ k ≤ 301 + 300 * (300 - d) ∧ Hid (k ≤ 300 → 1 + cntL (ks.take i) ≤ k) ∧ Hid (Blk wr W.heap.size 24 #[.int .i64 o, .string (mkB t), .string (mkB y), .int .i64 m, .slice xa n xc, .int .i64 p]) ∧ Hid (Below W.heap.size W wr)) (fun _ s6 _ => n - (intOf s6).toNat)
  case atStart => exact ⟨1, 0, Nat.zero_le _, rfl, rfl, Nat.le_refl _, by omega, Lib.hid (fun _ => by simp [cntL]), q0, hb⟩
  case round =>
    clear q0 hb
    obtain ⟨k, i, hi, rfl, rfl, hk1, hk2, HM, Q0, HB⟩ := hrel
    have c4 : wr.cell? ⟨W.heap.size, 4, none⟩ = some (.slice xa n xc) := Q0.out.cell 4
    have l0 := Q0.out.lt
    by_cases hgo : i < n ∧ k ≤ 300 ∧ d < 300
    · obtain ⟨hin, hk3, hd3⟩ := hgo
      obtain ⟨x, hx⟩ : ∃ x, ks[i]? = some x := ⟨_, List.getElem?_eq_getElem (by rw [← HN.out]; exact hin)⟩
      have KX := (show KidsG W ks (.slice xa n xc) from HA.out).later HB.out
      obtain ⟨A2, c1, kvx, e, p1, p2, hkx, b0, b1, b2, b3, b4, b5, lg⟩ := KX.six hx
      simp only [Value.slice.injEq] at e
      obtain ⟨rfl, -, rfl⟩ := e
      obtain ⟨ya, yc, rfl⟩ := hkx.form
      have hcx := fun (w' : World) (h : KidsG w' x.kids (.slice ya x.kids.length yc)) => HK.out x (List.mem_of_getElem? hx) w' _ (d + 1) (by omega) h
      rw [show ((d + 1 : Nat) : Int) = (d : Int) + 1 from by omega] at hcx
      have htk := cntL_take hx
      have CX := Lib.hid hcx
      have KXX := Lib.hid hkx
      have HTK := Lib.hid htk
      clear hcx hkx KX hx htk
      go_wp2_with fail
      refine (CX.out _ KXX.out).mono ?_
      rintro e w1 ⟨s, rfl, g1, g2, g3, hb1⟩
      have G3 := Lib.hid g3
      have r0 := Lib.hid (Q0.out.below hb1 l0)
      have r2 := Lib.hid (HB.out.trans (hb1.mono HB.out.size))
      have HM2 : Hid (k + s ≤ 300 → 1 + cntL (ks.take (i + 1)) ≤ k + s) := Lib.hid (fun h => by rw [HTK.out]; have := HM.out (by omega); have := G3.out (by omega); omega)
      clear hb1 g3
      go_wp2_with fail
      go_roundw
      case rel => exact ⟨k + s, i + 1, by omega, by go_num, by go_num, by omega, by omega, HM2, r0, r2⟩
      case measure => simp [intOf]; omega
    · by_cases hd3 : d < 300
      · by_cases hin : i < n
        · have hk3 : ¬ k ≤ 300 := fun h => hgo ⟨hin, h, hd3⟩
          clear hgo HM
          go_wp2_with fail
          go_ret
          exact ⟨k, rfl, hk1, hk2, fun h => absurd h hk3, HB.out⟩
        · obtain rfl : i = n := by omega
          have HM2 : Hid (k ≤ 300 → 1 + cntL ks ≤ k) := Lib.hid (by have := HM.out; rwa [List.take_of_length_le (by rw [← HN.out]; exact Nat.le_refl _)] at this)
          clear hgo HM
          go_wp2_with fail
          go_ret
          exact ⟨k, rfl, hk1, hk2, HM2.out, HB.out⟩
      · obtain rfl : d = 300 := by omega
        clear hgo HM
        by_cases hin : i < n
        · by_cases hk3 : k ≤ 300
          · go_wp2_with fail
            go_ret
            exact ⟨301, rfl, by omega, by omega, fun h => absurd h (by omega), HB.out⟩
          · go_wp2_with fail
            go_ret
            exact ⟨301, rfl, by omega, by omega, fun h => absurd h (by omega), HB.out⟩
        · go_wp2_with fail
          go_ret
          exact ⟨301, rfl, by omega, by omega, fun h => absurd h (by omega), HB.out⟩
theorem size_any : ∀ a : NodeD, SizeC a := by
  have h : ∀ (n : Nat) (a : NodeD), cntN a < n → SizeC a := by
    intro n
    induction n with
    | zero => intro a h; exact absurd h (by omega)
    | succ n ih =>
      intro a h
      refine size_step a fun x hx => ih x ?_
      have := cntL_mem hx
      have := cntN_kids a
      omega
  exact fun a => h _ a (Nat.lt_succ_self _)
end Go.Proofs.YtcaigcmbgihhkaaDoor
