/-
  Part of a proof: SmC.
-/
import Derived.Test.YtcaigcmbgihhkaaGreatDoorZSmA
import Derived.Test.YtcaigcmbgihhkaaGreatDoorZPsE
import Derived.LoopTactic
namespace Go.Proofs.YtcaigcmbgihhkaaGreatDoor
open Go Go.RowKit Go.Shelf
set_option linter.unusedVariables false
set_option linter.unusedSimpArgs false
attribute [local go_sem] Oper.semAt_some
def KOwn (T : TypeId) (n0 : Nat) (W : World) (v : Value) (ks : List NodeD) : Prop := ∃ ps : List (NodeD × Value), ps.map Prod.fst = ks ∧ W.ownsRow n0 T 6 v ks.length (ps.flatMap fun p => ncells p.1 p.2) ∧ ∀ p ∈ ps, KidsAt (fun k => n0 ≤ k ∧ some k ≠ v.ownBlock) W p.1.kids p.2
theorem KOwn.nil (T : TypeId) (n0 : Nat) (W : World) : KOwn T n0 W (.slice none 0 0) [] := ⟨[], rfl, World.ownsRow_nil _ _ _ _, fun p h => by simp at h⟩
theorem KOwn.form {T : TypeId} {n0 : Nat} {W : World} {v : Value} {ks : List NodeD} (h : KOwn T n0 W v ks) : ∃ ao c, v = .slice ao ks.length c := by
  obtain ⟨ps, _, ho, _⟩ := h
  exact own_form ho
theorem KOwn.kids {T : TypeId} {n0 : Nat} {W : World} {v : Value} {ks : List NodeD} (h : KOwn T n0 W v ks) : KidsAt (fun k => n0 ≤ k) W ks v := by
  obtain ⟨ps, rfl, ho, hk⟩ := h
  rcases ho.2 with ⟨rfl, hn⟩ | ⟨g, cap, cur, rfl, hg, hb, h1, h2, h3, h4⟩
  · have : ps = [] := by
      cases ps with
      | nil => rfl
      | cons p t => simp at hn
    subst this
    exact KidsAt.nil _ _
  · refine KidsAt.row ps g cap _ (by simp) (fun _ => hg) h1 h2 (fun p hp => (hk p hp).mono (fun k h _ => h.1)) (fun i u hu => ?_)
    have hb' : Blk W g T cur := hb
    rw [hb'.cell]
    have hi := (List.getElem?_eq_some_iff.1 hu).1
    rw [← hu, take_get h4 i (by rw [ho.1] at hi; exact hi)]
theorem KOwn.touch {T : TypeId} {n0 : Nat} {W W' : World} {v : Value} {ks : List NodeD} {S : Nat → Prop} (h : KOwn T n0 W v ks) (ht : Touch S W W') (hS : ∀ k, S k → k < n0) : KOwn T n0 W' v ks := by
  obtain ⟨ps, h1, ho, hk⟩ := h
  exact ⟨ps, h1, own_touch ho ht hS, fun p hp => (hk p hp).keep (fun _ h _ => h) (fun k hk hl => ht.block k hl (fun hs => by have := hS k hs; omega))⟩
theorem KOwn.appended {T : TypeId} {n0 : Nat} {w1 w3 : World} {v v' kv : Value} {ks : List NodeD} {n : NodeD} {tmp : Obj} {ps : List (NodeD × Value)} (h1 : ps.map Prod.fst = ks) (hk : ∀ p ∈ ps, KidsAt (fun k => n0 ≤ k ∧ some k ≠ v.ownBlock) w1 p.1.kids p.2)
    (hn : KidsAt (fun k => n0 ≤ k ∧ some k ≠ v.ownBlock) w1 n.kids kv) (ho : w3.ownsRow n0 T 6 v' (ks.length + 1) ((ps.flatMap fun p => ncells p.1 p.2) ++ ncells n kv)) (hg : (w1.alloc tmp).grownBy w3 v.ownBlock)
    (hat : v'.ownBlock = v.ownBlock ∨ v'.ownBlock = some (w1.alloc tmp).heap.size) : KOwn T n0 w3 v' (ks ++ [n]) := by
  have hb : ∀ k, k < w1.heap.size → some k ≠ v.ownBlock → w3.heap[k]? = w1.heap[k]? := fun k hl hne => (hg.block k (by simp; omega) hne).trans (Below.heap_alloc w1 tmp k hl)
  have hok : ∀ k, (n0 ≤ k ∧ some k ≠ v.ownBlock) → k < w1.heap.size → (n0 ≤ k ∧ some k ≠ v'.ownBlock) := fun k h hl => ⟨h.1, by
    rcases hat with e | e
    · rw [e]; exact h.2
    · rw [e]; simp; omega⟩
  refine ⟨ps ++ [(n, kv)], by rw [List.map_append, h1]; rfl, by simpa using ho, fun p hp => ?_⟩
  rcases List.mem_append.1 hp with hp | hp
  · exact (hk p hp).keep hok (fun k hk hl => hb k hl hk.2)
  · simp only [List.mem_singleton] at hp
    subst hp
    exact hn.keep hok (fun k hk hl => hb k hl hk.2)
set_option maxRecDepth 100000 in
theorem node_refinfo : (Tryz.prog.info? 93).map (fun i => (i.zero, i.size, i.bytes)) = some (some (.agg #[.int .i64 0, .string ⟨#[]⟩, .string ⟨#[]⟩, .int .i64 0, .slice none 0 0, .int .i64 0]), 6, 80) := by kernel_rfl
def NodeC (n : NodeD) : Prop := ∀ W va, KidsIn W n.kids va → Calls Tryz.prog 39 #[nodeV n va] W fun e w' => ∃ v, e = .returned (nodeV n v) ∧ KidsAt (fun k => W.heap.size ≤ k) w' n.kids v ∧ Below W.heap.size W w'
set_option maxRecDepth 100000 in
set_option maxHeartbeats 4000000 in
theorem node_step (n : NodeD) (hc : cntN n ≤ 1000000) (HF : ∀ x ∈ n.kids, NodeC x) : NodeC n := fun W va ha => by
  obtain ⟨xa, xc, rfl⟩ := ha.form
  have hlen : n.kids.length ≤ 1000000 := by have := cntL_len n.kids; have := cntN_kids n; omega
  have HA := Lib.hid ha
  have HK := Lib.hid HF
  obtain ⟨o, t, y, m, ks, p⟩ := n
  simp only [NodeD.kids] at hlen HA HK
  clear ha HF hc
  dsimp only [nodeV, NodeD.op, NodeD.text, NodeD.type, NodeD.n, NodeD.at_, NodeD.kids]
  obtain ⟨n, hn⟩ : ∃ n, n = ks.length := ⟨_, rfl⟩
  rw [← hn] at hlen HA ⊢
  have HN := Lib.hid hn
  clear hn
  go_enter Tryz.func39, Tryz.ntmps39
  go_wp2_with fail
  have q0 := ((Blk.new W 79 #[.int .i64 o, .string (mkB t), .string (mkB y), .int .i64 m, .slice xa n xc, .int .i64 p]).alloc (.cells zeroN 93)).alloc (.cells #[.int .i64 o, .string (mkB t), .string (mkB y), .int .i64 m, .slice none 0 0, .int .i64 p] 93)
  have q1 := (Blk.new (W.alloc (.cells #[.int .i64 o, .string (mkB t), .string (mkB y), .int .i64 m, .slice xa n xc, .int .i64 p] 79)) 93 zeroN).alloc (.cells #[.int .i64 o, .string (mkB t), .string (mkB y), .int .i64 m, .slice none 0 0, .int .i64 p] 93)
  have q2 := Blk.new ((W.alloc (.cells #[.int .i64 o, .string (mkB t), .string (mkB y), .int .i64 m, .slice xa n xc, .int .i64 p] 79)).alloc (.cells zeroN 93)) 93 #[.int .i64 o, .string (mkB t), .string (mkB y), .int .i64 m, .slice none 0 0, .int .i64 p]
  have hb := (((Below.refl W.heap.size W).alloc (Nat.le_refl _) (.cells #[.int .i64 o, .string (mkB t), .string (mkB y), .int .i64 m, .slice xa n xc, .int .i64 p] 79)).alloc (by simp) (.cells zeroN 93)).alloc (by simp; omega) (.cells #[.int .i64 o, .string (mkB t), .string (mkB y), .int .i64 m, .slice none 0 0, .int .i64 p] 93)
  simp only [World.size_alloc] at q1 q2
  have Q0 := Lib.hid q0
  have Q1 := Lib.hid q1
  have Q2 := Lib.hid q2
  have HB := Lib.hid hb
  have hz : ((((W.alloc (.cells #[.int .i64 o, .string (mkB t), .string (mkB y), .int .i64 m, .slice xa n xc, .int .i64 p] 79)).alloc (.cells zeroN 93)).alloc (.cells #[.int .i64 o, .string (mkB t), .string (mkB y), .int .i64 m, .slice none 0 0, .int .i64 p] 93))).heap.size = W.heap.size + 1 + 1 + 1 := by simp
  have hkn := Lib.hid (KOwn.nil 93 (W.heap.size + 1 + 1 + 1) (((W.alloc (.cells #[.int .i64 o, .string (mkB t), .string (mkB y), .int .i64 m, .slice xa n xc, .int .i64 p] 79)).alloc (.cells zeroN 93)).alloc (.cells #[.int .i64 o, .string (mkB t), .string (mkB y), .int .i64 m, .slice none 0 0, .int .i64 p] 93)))
  clear q0 q1 q2 hb
  go_loopw [4] (fun s4 wr => ∃ (kv : Value) (k : Nat), k ≤ n ∧ s4 = .int .i64 (k : Int) ∧ Hid (Blk wr W.heap.size 79 #[.int .i64 o, .string (mkB t), .string (mkB y), .int .i64 m, .slice xa n xc, .int .i64 p]) ∧ Hid (Blk wr (W.heap.size + 1) 93 zeroN) ∧ Hid (Blk wr (W.heap.size + 1 + 1) 93 #[.int .i64 o, .string (mkB t), .string (mkB y), .int .i64 m, kv, .int .i64 p]) ∧ Hid (KOwn 93 (W.heap.size + 1 + 1 + 1) wr kv (ks.take k)) ∧ Hid (Below W.heap.size W wr) ∧ W.heap.size + 1 + 1 + 1 ≤ wr.heap.size) (fun s4 _ => n - (intOf s4).toNat)
  case atStart => exact ⟨_, 0, Nat.zero_le _, rfl, Q0, Q1, Q2, hkn, HB, by simp⟩
  case round =>
    clear Q0 Q1 Q2 HB hz hkn
    obtain ⟨kv, k, hk, rfl, Q0, Q1, Q2, KO, HB, hzr⟩ := hrel
    obtain ⟨a0, a1, a2, a3, a4, a5, af, al⟩ := Q0.out.six
    obtain ⟨d0, d1, d2, d3, d4, d5, df, dl⟩ := Q2.out.six
    have hlk : (ks.take k).length = k := by rw [List.length_take]; have := HN.out; omega
    obtain ⟨ka, kc, rfl⟩ := KO.out.form
    rw [hlk] at d4 KO Q2
    by_cases hkn : k < n
    · obtain ⟨x, hx⟩ : ∃ x, ks[k]? = some x := ⟨_, List.getElem?_eq_getElem (by rw [← HN.out]; exact hkn)⟩
      have KX := (show KidsIn W ks (.slice xa n xc) from HA.out).later HB.out
      obtain ⟨g, o2, c1, kvx, e, p1, p2, hkx, b0, b1, b2, b3, b4, b5⟩ := KX.six hx
      simp only [Value.slice.injEq] at e
      obtain ⟨rfl, -, rfl⟩ := e
      have lg := cell_lt b0
      obtain ⟨ya, yc, rfl⟩ := hkx.form
      have hcx := HK.out x (List.mem_of_getElem? hx)
      have htk : ks.take (k + 1) = ks.take k ++ [x] := by rw [List.take_add_one, hx]; rfl
      obtain ⟨ps, hps, ho, hkk⟩ := KO.out
      rw [hlk] at ho
      have HPS := Lib.hid hps
      have HO := Lib.hid ho
      have HKK := Lib.hid hkk
      have CX := Lib.hid hcx
      have KXX := Lib.hid hkx
      have HTK := Lib.hid htk
      have HLK := Lib.hid hlk
      obtain ⟨i0, hi0, hz0, hz1, hz2⟩ := info_of node_refinfo
      have hown : ∀ q, some q = (Value.slice ka k kc).ownBlock → W.heap.size + 1 + 1 + 1 ≤ q ∧ q < wr.heap.size := fun q e => HO.out.lt q e.symm
      have hne2 : ∀ q, q < W.heap.size + 1 + 1 + 1 → some q ≠ (Value.slice ka k kc).ownBlock := fun q hq e => by have := (hown q e).1; omega
      have e4 : wr.drew.cell? ⟨W.heap.size + 1 + 1, 4, none⟩ = some (.slice ka k kc) := d4
      clear hps ho hkk hcx hkx KX hx htk hlk d0 d1 d2 d3 d5 a0 a1 a2 a3 a5
      go_wp2_with fail
      go_region_law (first
        | (go_simp; go_at_call 39; go_loud (refine (CX.out wr.drew _ (KXX.out.later (below_drew (Below.refl _ _)))).mono ?_; rintro e w2 ⟨kv2, rfl, hk2, hb2⟩; obtain ⟨za, zc, rfl⟩ := hk2.form; have n2 := (Q2.out.drew).below hb2 (by simp only [World.drew]; omega); have s0 := (Q0.out.drew).below hb2 (by simp only [World.drew]; omega); have f4 : w2.cell? ⟨W.heap.size + 1 + 1, 4, none⟩ = some (.slice ka k kc) := n2.cell 4; have f4a : ∀ o, (w2.alloc o).cell? ⟨W.heap.size + 1 + 1, 4, none⟩ = some (.slice ka k kc) := fun o => (n2.alloc o).cell 4; have N2 := Lib.hid n2; have HB2 := Lib.hid hb2; have HK2 := Lib.hid hk2; have hz2' : wr.heap.size ≤ w2.heap.size := hb2.size; have O2 := Lib.hid (own_below (W := wr.drew) HO.out.drew hb2); clear n2 s0 hb2 hk2))
        | (go_loud (refine step_append_lies _ rfl _ _ 91 rfl (W.heap.size + 1 + 1 + 1) 93 i0 (.agg #[.int .i64 0, .string ⟨#[]⟩, .string ⟨#[]⟩, .int .i64 0, .slice none 0 0, .int .i64 0]) 6 80 Tryz.underlying91 hi0 hz0 hz1 hz2 rfl (by decide) (.slice ka k kc) k _ (by rfl) (O2.out.alloc _) ⟨w2.heap.size, 0, none⟩ 1 1 (ncells x (.slice za x.kids.length zc)) (by rfl) (by rfl) (news_at _ _ (ncells x (.slice za x.kids.length zc))) (by simp [ncells, Value.oneCell']) (by omega) (by unfold maxLen; omega) (by omega) (by simp; omega) _ (by rfl) ?_; intro g0 cap w3 ho3 hg3 hat3 hlt3; have n3 := (N2.out.alloc _).kept hg3 (hne2 _ (by omega)); have g4 : w3.cell? ⟨W.heap.size + 1 + 1, 4, none⟩ = some (.slice ka k kc) := n3.cell 4; have gf := n3.frozen 4; have N3 := Lib.hid n3; have HO3 := Lib.hid ho3; have HG3 := Lib.hid hg3; have HAT3 := Lib.hid hat3; clear n3 ho3 hg3 hat3)))
      all_goals
        have hlk := HLK.out
        have hko := KOwn.appended (T := 93) (w1 := w2) (v' := .slice (some ⟨g0, 0, none⟩) (k + 1) cap) HPS.out (fun p hp => (HKK.out p hp).keep (W' := w2) (fun _ h _ => h) (fun i hi hl => HB2.out.block i hl)) (HK2.out.mono (fun i h hl => ⟨by have h2 : wr.heap.size ≤ i := h; omega, fun e => by have := (hown i e).2; have h2 : wr.heap.size ≤ i := h; omega⟩)) (by rw [hlk]; exact HO3.out) HG3.out (HAT3.out.elim (fun e => .inl e.symm) (fun e => .inr (congrArg some e)))
        rw [← HTK.out] at hko
        have hsz3 := HG3.out.size
        have hk4 := Lib.hid (hko.touch ((Touch.refl (fun i => i = W.heap.size + 1 + 1) w3).setCell (p := ⟨W.heap.size + 1 + 1, 4, none⟩) (.inl rfl) (.slice (some ⟨g0, 0, none⟩) (k + 1) cap)) (fun i hi => by omega))
        have r0 := Lib.hid ((((Q0.out.drew.below HB2.out (by simp only [World.drew]; omega)).alloc _).kept HG3.out (hne2 _ (by omega))).other (B' := W.heap.size + 1 + 1) (by omega) 4 (.slice (some ⟨g0, 0, none⟩) (k + 1) cap))
        have r1 := Lib.hid ((((Q1.out.drew.below HB2.out (by simp only [World.drew]; omega)).alloc _).kept HG3.out (hne2 _ (by omega))).other (B' := W.heap.size + 1 + 1) (by omega) 4 (.slice (some ⟨g0, 0, none⟩) (k + 1) cap))
        have r2 := N3.out.set 4 (.slice (some ⟨g0, 0, none⟩) (k + 1) cap)
        simp only [List.setIfInBounds_toArray, List.set_cons_zero, List.set_cons_succ] at r2
        have R2 := Lib.hid r2
        have tb : Touch (fun q => W.heap.size ≤ q) wr w3 := ((Touch.of_below (S := fun q => W.heap.size ≤ q) (below_drew (Below.refl wr.heap.size wr))).trans (Touch.of_below (S := fun q => W.heap.size ≤ q) HB2.out) (fun i hi => .inl hi)).alloc _ |>.grown HG3.out (fun i e => .inl (by have := (hown i e.symm).1; omega))
        have hb4 := Lib.hid ((HB.out.trans (Touch.below tb (n := W.heap.size) (by omega) (fun q hq => hq))).setCell (p := ⟨W.heap.size + 1 + 1, 4, none⟩) (by simp; omega) (.slice (some ⟨g0, 0, none⟩) (k + 1) cap))
        have hz4 : W.heap.size + 1 + 1 + 1 ≤ (w3.setCell ⟨W.heap.size + 1 + 1, 4, none⟩ (.slice (some ⟨g0, 0, none⟩) (k + 1) cap)).heap.size := by simp [World.setCell] at hsz3 ⊢; omega
        clear hko r2 tb hlk
        go_wp2_with fail
        go_roundw
        case rel => exact ⟨_, k + 1, by omega, by go_num, r0, r1, R2, hk4, hb4, hz4⟩
        case measure => simp [intOf]; omega
    · obtain rfl : k = n := by omega
      have hks : ks.take k = ks := by rw [List.take_of_length_le]; have := HN.out; omega
      rw [hks] at KO
      have HKS := Lib.hid hks
      obtain ⟨r0, r1, r2, r3, r4, r5, rf, rl⟩ := Q1.out.six
      clear hks hlk
      go_wp2_with fail
      refine six_go (P := fun W' => bodyPost Tryz.prog _ _ _ _ W') Q1.out ?_
      intro W' hb6 ht6
      refine bodyPost_ret (results_cell_row (fn := Tryz.f39) rfl _ _ (W.heap.size + 1) 93 _ (0, 0) _ rfl hb6 rfl rfl rfl) rfl ⟨_, rfl, ?_, ?_⟩
      · exact (KO.out.kids.keep (fun _ h _ => h) (fun i hi hl => ht6.block i hl (by omega))).mono (fun i h _ => by show W.heap.size ≤ i; omega)
      · exact HB.out.trans (Touch.below ht6 (n := W.heap.size) (by omega) (fun q hq => by omega))
theorem node_any : ∀ a : NodeD, cntN a ≤ 1000000 → NodeC a := by
  have h : ∀ (n : Nat) (a : NodeD), cntN a < n → cntN a ≤ 1000000 → NodeC a := by
    intro n
    induction n with
    | zero => intro a h; exact absurd h (by omega)
    | succ n ih =>
      intro a h hc
      refine node_step a hc fun x hx => ih x ?_ ?_
      all_goals
        have := cntL_mem hx
        have := cntN_kids a
        omega
  exact fun a hc => h _ a (Nat.lt_succ_self _) hc
end Go.Proofs.YtcaigcmbgihhkaaGreatDoor
