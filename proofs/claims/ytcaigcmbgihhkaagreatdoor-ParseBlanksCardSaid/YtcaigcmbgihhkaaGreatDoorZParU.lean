/-
  Part of a proof: ParU, ParV, ParX, ParY.
-/
import Derived.Test.YtcaigcmbgihhkaaGreatDoorZParO
import Derived.MapKept
namespace Go.Proofs.YtcaigcmbgihhkaaGreatDoor
open Go Go.RowKit Go.Shelf
set_option linter.unusedVariables false
set_option linter.unusedSimpArgs false
attribute [local go_sem] Oper.semAt_some
def MapAt (W : World) (b : Nat) (l : List (Bs × Int)) : Prop := ∃ es clock, W.heap[b]? = some (.map es clock) ∧ es.toList.map (fun e => (e.key, e.val)) = l.map (fun x => (Value.string (mkB x.1), Value.int .i64 x.2))
theorem MapAt.new (W : World) : MapAt (W.alloc (.map #[] 0)) W.heap.size [] := ⟨#[], 0, World.alloc_heap_new W _, rfl⟩
theorem MapAt.lt {W : World} {b : Nat} {l : List (Bs × Int)} (h : MapAt W b l) : b < W.heap.size := by
  obtain ⟨es, c, hb, _⟩ := h
  exact (Array.getElem?_eq_some_iff.1 hb).1
theorem MapAt.block {W W' : World} {b : Nat} {l : List (Bs × Int)} (h : MapAt W b l) (hb : W'.heap[b]? = W.heap[b]?) : MapAt W' b l := by
  obtain ⟨es, c, h1, h2⟩ := h
  exact ⟨es, c, hb.trans h1, h2⟩
theorem MapAt.tch {W W' : World} {b pB : Nat} {l : List (Bs × Int)} (h : MapAt W b l) (ht : Tch pB W W') (hb : b ≠ pB) : MapAt W' b l := h.block (ht.block b h.lt hb)
theorem MapAt.touch {W W' : World} {b q : Nat} {l : List (Bs × Int)} (h : MapAt W b l) (ht : Touch (fun i => i = q) W W') (hb : b ≠ q) : MapAt W' b l := h.block (ht.block b h.lt hb)
theorem MapAt.alloc {W : World} {b : Nat} {l : List (Bs × Int)} (h : MapAt W b l) (o : Obj) : MapAt (W.alloc o) b l := h.block (Below.heap_alloc W o b h.lt)
theorem MapAt.keys {es : Array MapEntry} {l : List (Bs × Int)} (h : es.toList.map (fun e => (e.key, e.val)) = l.map (fun x => (Value.string (mkB x.1), Value.int .i64 x.2))) : ∀ e ∈ es.toList, ∃ x ∈ l, e.key = .string (mkB x.1) ∧ e.val = .int .i64 x.2 := fun e he => by
  have h1 : (e.key, e.val) ∈ es.toList.map (fun e => (e.key, e.val)) := List.mem_map.2 ⟨e, he, rfl⟩
  rw [h] at h1
  obtain ⟨x, hx, e1⟩ := List.mem_map.1 h1
  exact ⟨x, hx, (Prod.mk.injEq .. ▸ e1).1.symm, (Prod.mk.injEq .. ▸ e1).2.symm⟩
theorem run_insert {W : World} {b : Nat} {l : List (Bs × Int)} (h : MapAt W b l) (k : ByteArray) (v : Int) (hk : ∀ x ∈ l, x.1 ≠ bl k) :
    ∃ W', (Instr.mapUpdate 232 (.map (some b)) (.string k) (.int .i64 v)).run Tryz.prog W = .ok () W' ∧ MapAt W' b (l ++ [(bl k, v)]) ∧ Touch (fun i => i = b) W W' := by
  obtain ⟨es, c, hb, hl⟩ := h
  have hkeys := MapAt.keys hl
  have hd := Tryz.underlying9
  have hm := Tryz.underlying232
  have hks : ∀ x ∈ es.toList, MapKept.IsKey .string x.key := fun e he => by
    obtain ⟨x, _, h1, _⟩ := hkeys e he
    rw [h1]; trivial
  rcases MapKept.findNow_spec (d := .string) (k := .string k) trivial es.toList 0 hks with ⟨h1, _⟩ | ⟨j, e, h1, h2, h3⟩
  · refine ⟨{ W with heap := W.heap.setIfInBounds b (.map (es.push { key := .string k, val := .int .i64 v, born := c }) (c + 1)) }, ?_, ⟨_, _, (MapKept.heap_set hb).1, ?_⟩, ⟨rfl, rfl, rfl, by simp, fun i _ hi => (MapKept.heap_set hb).2 i hi⟩⟩
    · have hck := MapKept.run_checkKey (P := Tryz.prog) (w := W) (k := .string k) hd (by trivial) false 9999
      simp [Instr.mapUpdate, run_underlying hm, MapKept.run_getObj_map hb, hck, MapKept.run_findKey hd h1, MapKept.run_setObj_map _ hb, Result.andThen]
    · rw [Array.toList_push, List.map_append, List.map_append, hl]
      simp [mkB_bl]
  · obtain ⟨x, hx, h4, _⟩ := hkeys e (List.mem_of_getElem? h2)
    rw [h3] at h4
    simp only [Value.string.injEq] at h4
    exact absurd (by rw [h4, bl_mkB]) (hk x hx)
set_option maxRecDepth 100000 in
theorem run_look {W : World} {b : Nat} {l : List (Bs × Int)} (h : MapAt W b l) (hn : (l.map Prod.fst).Nodup) (k : ByteArray) : (Instr.lookup 232 (.map (some b)) (.string k) false).run Tryz.prog W = .ok (.int .i64 (lookL l (bl k))) W := by
  obtain ⟨es, c, hb, hl⟩ := h
  have hkeys := MapAt.keys hl
  have hd := Tryz.underlying9
  have hm := Tryz.underlying232
  have hz : (zeroValue 3).run Tryz.prog W = .ok (.int .i64 0) W := rfl
  have hks : ∀ x ∈ es.toList, MapKept.IsKey .string x.key := fun e he => by
    obtain ⟨x, _, h1, _⟩ := hkeys e he
    rw [h1]; trivial
  have hck := MapKept.run_checkKey (P := Tryz.prog) (w := W) (k := .string k) hd (by trivial) es.isEmpty 9999
  rcases MapKept.findNow_spec (d := .string) (k := .string k) trivial es.toList 0 hks with ⟨h1, h2⟩ | ⟨j, e, h1, h2, h3⟩
  · have hno : l.find? (fun x => x.1 == bl k) = none := by
      rw [List.find?_eq_none]
      intro x hx he
      have : (Value.string (mkB x.1), Value.int .i64 x.2) ∈ l.map (fun x => (Value.string (mkB x.1), Value.int .i64 x.2)) := List.mem_map.2 ⟨x, hx, rfl⟩
      rw [← hl] at this
      obtain ⟨e, he2, e1⟩ := List.mem_map.1 this
      have e2 : e.key = .string (mkB x.1) := (Prod.mk.injEq .. ▸ e1).1
      refine h2 e he2 ?_
      rw [e2]
      have : x.1 = bl k := by simpa using he
      rw [this, mkB_bl]
    simp [Instr.lookup, run_underlying hm, MapKept.run_getObj_map hb, hck, MapKept.run_findKey hd h1, Result.andThen, hz, lookL, hno]
  · obtain ⟨x, hx, h4, h5⟩ := hkeys e (List.mem_of_getElem? h2)
    rw [h3] at h4
    simp only [Value.string.injEq] at h4
    have hxk : x.1 = bl k := by rw [h4, bl_mkB]
    have hyes : l.find? (fun x => x.1 == bl k) = some x := by
      cases hf : l.find? (fun x => x.1 == bl k) with
      | none => exact absurd (by simpa using hxk) (List.find?_eq_none.1 hf x hx)
      | some y =>
        have hy1 : y.1 = bl k := by simpa using List.find?_some hf
        have hy2 := List.mem_of_find?_eq_some hf
        congr 1
        have : ∀ (l : List (Bs × Int)), (l.map Prod.fst).Nodup → ∀ a ∈ l, ∀ b ∈ l, a.1 = b.1 → a = b := fun l => by
          induction l with
          | nil => intro _ a ha; simp at ha
          | cons z t ih =>
            intro hn a ha b hb he
            rw [List.map_cons, List.nodup_cons] at hn
            rcases List.mem_cons.1 ha with e1 | ha2
            · rcases List.mem_cons.1 hb with e2 | hb2
              · rw [e1, e2]
              · exact (hn.1 (List.mem_map.2 ⟨b, hb2, by rw [← he, e1]⟩)).elim
            · rcases List.mem_cons.1 hb with e2 | hb2
              · exact (hn.1 (List.mem_map.2 ⟨a, ha2, by rw [he, e2]⟩)).elim
              · exact ih hn.2 a ha2 b hb2 he
        exact this l hn y hy2 x hx (by rw [hy1, hxk])
    simp [Instr.lookup, run_underlying hm, MapKept.run_getObj_map hb, hck, MapKept.run_findKey hd h1, Result.andThen, lookL, hyes, h5]
theorem wpList_insert {ops : Array Oper} {rest : List Oper} {o : Oper} {a : Act} {W : World} {Q : Exit → Act → World → Prop} (hg : o.guard = none) (m x v : Operand) (hop : o.op = Op.insert 232 m x v) (b : Nat) (l : List (Bs × Int)) (k : ByteArray) (n : Int)
    (hm : a.eval m = .map (some b)) (hx : a.eval x = .string k) (hv : a.eval v = .int .i64 n) (h : MapAt W b l) (hk : ∀ x ∈ l, x.1 ≠ bl k)
    (hK : ∀ W', MapAt W' b (l ++ [(bl k, n)]) → Touch (fun i => i = b) W W' → wpList Tryz.prog ops Q rest (a.put o.dst undef) W') : wpList Tryz.prog ops Q (o :: rest) a W := by
  refine wpList_plain hg fun K' hK' => ?_
  obtain ⟨W', hrun, r1, r2⟩ := run_insert h k n hk
  unfold Oper.wp
  simp [execOp, hop, hm, hx, hv, hrun, Result.andThen]
  exact hK' _ _ (hK W' r1 r2)
end Go.Proofs.YtcaigcmbgihhkaaGreatDoor
namespace Go.Proofs.YtcaigcmbgihhkaaGreatDoor
open Go Go.RowKit Go.Shelf
set_option linter.unusedVariables false
set_option linter.unusedSimpArgs false
attribute [local go_sem] Oper.semAt_some
theorem Rd.mapped {pB : Nat} {en : Int} {w W W' : World} {Ls : List (Nat × TypeId × Array Value)} {s : PSt} {b : Nat} (h : Rd pB en w Ls [] W s) (ht : Touch (fun i => i = b) W W') (hw : w.heap.size ≤ b) (hl : b < W.heap.size) (hb : ∀ y ∈ Ls, y.1 ≠ b) : Rd pB en w Ls [] W' s :=
  ⟨h.pat.own ht (by have := h.plt; omega), Tch.own h.tch ht hw hl, fun x hx => ⟨(h.blk x hx).1.touch ht (hb x hx), (h.blk x hx).2⟩, fun x hx => by simp at hx, h.plt⟩
set_option maxRecDepth 100000 in
set_option maxHeartbeats 4000000 in
theorem prim_any (m : Nat) (H : ∀ k, k < m → NTC k .expr 172 ∧ NTC k .round 173 ∧ MadeC k) : NTC m .prim 221 := by
  intro w pB en s r h hr
  cases m with
  | zero => simp [runP] at hr
  | succ m =>
    rw [runP] at hr
    dsimp only at hr
    have hpl := h.lt
    have RA := Lib.hid ((Rd.start h).alloc 79 zeroN)
    have HR := Lib.hid hr
    have hmm := @run_makeMap Tryz.prog
    clear h hr
    go_enter Tryz.func221, Tryz.ntmps221
    go_wp2_with fail
    refine RA.out.placeR.mono ?_
    rintro e w1 ⟨rfl, R1⟩
    obtain ⟨p, hp⟩ : ∃ p, p = placeP en s := ⟨_, rfl⟩
    rw [← hp] at HR ⊢
    have HPL := Lib.hid hp
    clear hp
    have hlt1 := (R1.out.six6 (.head _)).lt
    have hne : w.heap.size ≠ w1.heap.size := by omega
    have R2 := Lib.hid (R1.out.alloc 79 #[.int .i64 0, .string ⟨#[]⟩, .string ⟨#[]⟩, .int .i64 0, .slice none 0 0, .int .i64 p])
    have M2 := MapAt.new (w1.alloc (.cells #[.int .i64 0, .string ⟨#[]⟩, .string ⟨#[]⟩, .int .i64 0, .slice none 0 0, .int .i64 p] 79))
    rw [World.size_alloc] at M2
    have R3 := Lib.hid (R2.out.alloc0 (.map #[] 0))
    have hmb : ∀ y ∈ [(w1.heap.size, 79, (#[.int .i64 0, .string ⟨#[]⟩, .string ⟨#[]⟩, .int .i64 0, .slice none 0 0, .int .i64 p] : Array Value)), (w.heap.size, 79, zeroN)], y.1 ≠ w1.heap.size + 1 := two_ne (by omega) (by omega)
    go_wp2_with (first
      | (refine wpList_insert rfl (.tmp 8) _ _ rfl (w1.heap.size + 1) _ ⟨#[116, 104, 105, 115]⟩ 6 rfl rfl rfl N2 (by decide) ?_; intro V3 N3 T3; clear N2)
      | (refine wpList_insert rfl (.tmp 8) _ _ rfl (w1.heap.size + 1) _ ⟨#[110, 117, 108, 108]⟩ 5 rfl rfl rfl N1 (by decide) ?_; intro V2 N2 T2; clear N1)
      | (refine wpList_insert rfl (.tmp 8) _ _ rfl (w1.heap.size + 1) _ ⟨#[102, 97, 108, 115, 101]⟩ 4 rfl rfl rfl N0 (by decide) ?_; intro V1 N1 T1; clear N0)
      | (refine wpList_insert rfl (.tmp 8) _ _ rfl (w1.heap.size + 1) _ ⟨#[116, 114, 117, 101]⟩ 3 rfl rfl rfl M2 (by decide) ?_; intro V0 N0 T0; clear M2))
    have R4 := R3.out.mapped T0 (by omega) (by simp) hmb
    have R5 := R4.mapped T1 (by omega) (by have := T0.size; simp at this; omega) hmb
    have R6 := R5.mapped T2 (by omega) (by have := T0.size; have := T1.size; simp at *; omega) hmb
    have R7 := Lib.hid (R6.mapped T3 (by omega) (by have := T0.size; have := T1.size; have := T2.size; simp at *; omega) hmb)
    have NM : MapAt V3 (w1.heap.size + 1) valuesL := N3
    have M7 := Lib.hid NM
    clear R4 R5 R6 T0 T1 T2 T3 N3 R3 R2 NM
    obtain ⟨n0, n1, n2, n3, n4, n5, nf, nl⟩ := (R7.out.six6 (.head _)).six
    cases hs : s.ws with
    | nil =>
      have hr := HR.out
      rw [hs] at hr
      dsimp only at hr
      obtain rfl : r = .error (p, 18) := by simpa [PM.fail] using hr.symm
      have hK : ∀ k, kindP s k = false := fun k => by simp [kindP, hs]
      have hA : ∀ u, aheadP s 0 u = false := fun u => by simp [aheadP, hs]
      have HK := Lib.hid hK
      have HA := Lib.hid hA
      clear hr hK hA hs
      go_wp2_with fail
      refine (R7.out.kind 2 (HK.out _)).mono ?_
      rintro e w9 ⟨rfl, rfl⟩
      go_wp2_with fail
      refine (R7.out.kind 3 (HK.out _)).mono ?_
      rintro e w9 ⟨rfl, rfl⟩
      go_wp2_with fail
      refine (R7.out.kind 1 (HK.out _)).mono ?_
      rintro e w9 ⟨rfl, rfl⟩
      go_wp2_with fail
      refine (R7.out.mayN (b := ⟨#[40]⟩) rfl (HA.out _)).mono ?_
      rintro e w9 ⟨rfl, rfl⟩
      go_wp2_with fail
      refine (R7.out.mayN (b := ⟨#[114, 101, 97, 100]⟩) rfl (HA.out _)).mono ?_
      rintro e w9 ⟨rfl, rfl⟩
      go_wp2_with fail
      refine (R7.out.mayN (b := ⟨#[108, 101, 110]⟩) rfl (HA.out _)).mono ?_
      rintro e w9 ⟨rfl, rfl⟩
      go_wp2_with fail
      refine (R7.out.mayN (b := ⟨#[110, 101, 119]⟩) rfl (HA.out _)).mono ?_
      rintro e w9 ⟨rfl, rfl⟩
      go_wp2_with fail
      refine (R7.out.kind 5 (HK.out _)).mono ?_
      rintro e w9 ⟨rfl, rfl⟩
      go_wp2_with fail
      refine (fail_any _ _ _ _).mono ?_
      rintro e w9 ⟨rfl, rfl⟩
      go_wp2_with fail
      exact ⟨rfl, rfl, R7.out.tch⟩
    | cons x l =>
      have hr := HR.out
      rw [hs] at hr
      dsimp only at hr
      have HS := Lib.hid hs
      have hK : ∀ k : Int, ∀ q, (x.kind == k) = q → kindP s k = q := fun k q e => by simp [kindP, hs, e]
      have HK := Lib.hid hK
      clear hK hs HR
      by_cases k2 : x.kind = 2
      · rw [if_pos k2] at hr
        obtain rfl : r = .ok (NodeD.mk 1 [] [] x.n [] p, nextP s) := by simpa using hr.symm
        have KY := Lib.hid (HK.out 2 true (by simpa using k2))
        clear hr k2
        go_wp2_with fail
        refine (R7.out.kind 2 KY.out).mono ?_
        rintro e w9 ⟨rfl, rfl⟩
        go_wp2_with fail
        refine (R7.out.next HS.out).mono ?_
        rintro e w8 ⟨rfl, R8⟩
        have hfd : ∀ w : World, (Instr.field 36 (.agg #[.int .i64 x.kind, .string (mkB x.text), .int .i64 x.n, .int .i64 x.at_]) 2).run Tryz.prog w = .ok (.int .i64 x.n) w := fun _ => by kernel_rfl
        obtain ⟨m0, m1, m2, m3, m4, m5, mf, ml⟩ := (R8.out.six6 (.head _)).six
        have R9 := Lib.hid ((R8.out.set (one_ne hne) 0 (.int .i64 1)).set (one_ne hne) 3 (.int .i64 x.n))
        obtain ⟨q0, q1, q2, q3, q4, q5, qf, ql⟩ := (R9.out.six6 (.head _)).six
        obtain ⟨r0, r1, r2, r3, r4, r5, rf, rl⟩ := (R9.out.six6 (.tail _ (.head _))).six
        go_wp2_with fail
        exact R9.out.nilKid.fin (NodeD.mk 1 [] [] x.n [] p) _ rfl rfl rfl (.tail _ (.head _)) (.head _)
      · rw [if_neg k2] at hr
        have KN2 := Lib.hid (HK.out 2 false (by simpa using k2))
        clear k2
        by_cases k3 : x.kind = 3
        · rw [if_pos k3] at hr
          obtain rfl : r = .ok (NodeD.mk 2 x.text [] 0 [] p, nextP s) := by simpa using hr.symm
          have KY := Lib.hid (HK.out 3 true (by simpa using k3))
          clear hr k3
          go_wp2_with fail
          refine (R7.out.kind 2 KN2.out).mono ?_
          rintro e w9 ⟨rfl, rfl⟩
          go_wp2_with fail
          refine (R7.out.kind 3 KY.out).mono ?_
          rintro e w9 ⟨rfl, rfl⟩
          go_wp2_with fail
          refine (R7.out.next HS.out).mono ?_
          rintro e w8 ⟨rfl, R8⟩
          have hfd : ∀ w : World, (Instr.field 36 (.agg #[.int .i64 x.kind, .string (mkB x.text), .int .i64 x.n, .int .i64 x.at_]) 1).run Tryz.prog w = .ok (.string (mkB x.text)) w := fun _ => by kernel_rfl
          obtain ⟨m0, m1, m2, m3, m4, m5, mf, ml⟩ := (R8.out.six6 (.head _)).six
          have R9 := Lib.hid ((R8.out.set (one_ne hne) 0 (.int .i64 2)).set (one_ne hne) 1 (.string (mkB x.text)))
          obtain ⟨q0, q1, q2, q3, q4, q5, qf, ql⟩ := (R9.out.six6 (.head _)).six
          obtain ⟨r0, r1, r2, r3, r4, r5, rf, rl⟩ := (R9.out.six6 (.tail _ (.head _))).six
          go_wp2_with fail
          exact R9.out.nilKid.fin (NodeD.mk 2 x.text [] 0 [] p) _ rfl rfl rfl (.tail _ (.head _)) (.head _)
        · rw [if_neg k3] at hr
          have KN3 := Lib.hid (HK.out 3 false (by simpa using k3))
          clear k3
          by_cases k1 : x.kind = 1
          · rw [if_pos k1] at hr
            obtain rfl : r = .ok (NodeD.mk 7 x.text [] 0 [] p, nextP s) := by simpa using hr.symm
            have KY := Lib.hid (HK.out 1 true (by simpa using k1))
            clear hr k1
            go_wp2_with fail
            refine (R7.out.kind 2 KN2.out).mono ?_
            rintro e w9 ⟨rfl, rfl⟩
            go_wp2_with fail
            refine (R7.out.kind 3 KN3.out).mono ?_
            rintro e w9 ⟨rfl, rfl⟩
            go_wp2_with fail
            refine (R7.out.kind 1 KY.out).mono ?_
            rintro e w9 ⟨rfl, rfl⟩
            go_wp2_with fail
            refine (R7.out.next HS.out).mono ?_
            rintro e w8 ⟨rfl, R8⟩
            have hfd : ∀ w : World, (Instr.field 36 (.agg #[.int .i64 x.kind, .string (mkB x.text), .int .i64 x.n, .int .i64 x.at_]) 1).run Tryz.prog w = .ok (.string (mkB x.text)) w := fun _ => by kernel_rfl
            obtain ⟨m0, m1, m2, m3, m4, m5, mf, ml⟩ := (R8.out.six6 (.head _)).six
            have R9 := Lib.hid ((R8.out.set (one_ne hne) 0 (.int .i64 7)).set (one_ne hne) 1 (.string (mkB x.text)))
            obtain ⟨q0, q1, q2, q3, q4, q5, qf, ql⟩ := (R9.out.six6 (.head _)).six
            obtain ⟨r0, r1, r2, r3, r4, r5, rf, rl⟩ := (R9.out.six6 (.tail _ (.head _))).six
            go_wp2_with fail
            exact R9.out.nilKid.fin (NodeD.mk 7 x.text [] 0 [] p) _ rfl rfl rfl (.tail _ (.head _)) (.head _)
          · rw [if_neg k1] at hr
            have KN1 := Lib.hid (HK.out 1 false (by simpa using k1))
            clear k1
            cases aP : aheadP s 0 [40] with
            | true =>
              rw [if_pos aP] at hr
              have AY := Lib.hid aP
              have HR := Lib.hid hr
              clear hr aP
              go_wp2_with fail
              refine (R7.out.kind 2 KN2.out).mono ?_
              rintro e w9 ⟨rfl, rfl⟩
              go_wp2_with fail
              refine (R7.out.kind 3 KN3.out).mono ?_
              rintro e w9 ⟨rfl, rfl⟩
              go_wp2_with fail
              refine (R7.out.kind 1 KN1.out).mono ?_
              rintro e w9 ⟨rfl, rfl⟩
              go_wp2_with fail
              refine (R7.out.mayY (b := ⟨#[40]⟩) rfl AY.out).mono ?_
              rintro e w8 ⟨rfl, R8⟩
              obtain ⟨m0, m1, m2, m3, m4, m5, mf, ml⟩ := (R8.out.six6 (.head _)).six
              go_wp2_with fail
              refine R8.out.nt HR.out (fun r1 h1 => (H m (by omega)).1 _ pB en _ r1 R8.out.pat h1) trivial (fun fl w' e ht => ?_) (fun a v s9 w9 hr9 hl9 R9 hv => ?_)
              · subst e; go_wp2_with fail; exact ⟨rfl, rfl, ht⟩
              obtain ⟨ka, kc, rfl⟩ := hv
              obtain ⟨q0, q1, q2, q3, q4, q5, qf, ql⟩ := (R9.out.six6 (.head _)).six
              have R10 := Lib.hid (R9.out.lay (one_ne hne) (.int .i64 a.op) (.string (mkB a.text)) (.string (mkB a.type)) (.int .i64 a.n) (.slice ka a.kids.length kc) (.int .i64 a.at_))
              have HR9 := Lib.hid hr9
              clear hr9
              go_wp2_with fail
              refine R10.out.must HR9.out (by simp [World.setCell]) rfl (fun fl w' e ht => ?_) (fun s11 w11 hr11 hl11 R11 => ?_)
              · subst e; go_wp2_with fail; exact ⟨rfl, rfl, ht⟩
              obtain rfl : r = .ok (a, s11) := by simpa [PM.pure] using hr11.symm
              obtain ⟨t0, t1, t2, t3, t4, t5, tf, tl⟩ := (R11.out.six6 (.head _)).six
              obtain ⟨r0, r1, r2, r3, r4, r5, rf, rl⟩ := (R11.out.six6 (.tail _ (.head _))).six
              clear hr11
              go_wp2_with fail
              exact R11.out.fin (a) _ rfl rfl rfl (.tail _ (.head _)) (.head _)
            | false =>
              rw [if_neg (by rw [aP]; decide)] at hr
              have ANP := Lib.hid aP
              clear aP
              cases aR : aheadP s 0 [114, 101, 97, 100] with
              | true =>
                rw [if_pos aR] at hr
                have AY := Lib.hid aR
                have HR := Lib.hid hr
                clear hr aR
                go_wp2_with fail
                refine (R7.out.kind 2 KN2.out).mono ?_
                rintro e w9 ⟨rfl, rfl⟩
                go_wp2_with fail
                refine (R7.out.kind 3 KN3.out).mono ?_
                rintro e w9 ⟨rfl, rfl⟩
                go_wp2_with fail
                refine (R7.out.kind 1 KN1.out).mono ?_
                rintro e w9 ⟨rfl, rfl⟩
                go_wp2_with fail
                refine (R7.out.mayN (b := ⟨#[40]⟩) rfl ANP.out).mono ?_
                rintro e w9 ⟨rfl, rfl⟩
                go_wp2_with fail
                refine (R7.out.mayY (b := ⟨#[114, 101, 97, 100]⟩) rfl AY.out).mono ?_
                rintro e w8 ⟨rfl, R8⟩
                obtain ⟨m0, m1, m2, m3, m4, m5, mf, ml⟩ := (R8.out.six6 (.head _)).six
                have R9 := Lib.hid (R8.out.set (one_ne hne) 0 (.int .i64 13))
                go_wp2_with fail
                refine R9.out.musts HR.out (by simp [World.setCell]) rfl rfl (fun fl w' e ht => ?_) (fun s11 w11 hr11 hl11 R11 => ?_)
                · subst e; go_wp2_with fail; exact ⟨rfl, rfl, ht⟩
                obtain rfl : r = .ok (.mk 13 [] [] 0 [] p, s11) := by simpa [PM.pure] using hr11.symm
                obtain ⟨t0, t1, t2, t3, t4, t5, tf, tl⟩ := (R11.out.six6 (.head _)).six
                obtain ⟨r0, r1, r2, r3, r4, r5, rf, rl⟩ := (R11.out.six6 (.tail _ (.head _))).six
                clear hr11
                go_wp2_with fail
                exact R11.out.nilKid.fin (NodeD.mk 13 [] [] 0 [] p) _ rfl rfl rfl (.tail _ (.head _)) (.head _)
              | false =>
                rw [if_neg (by rw [aR]; decide)] at hr
                have ANR := Lib.hid aR
                clear aR
                cases aL : aheadP s 0 [108, 101, 110] with
                | true =>
                  rw [if_pos aL] at hr
                  have AY := Lib.hid aL
                  have HR := Lib.hid hr
                  clear hr aL
                  go_wp2_with fail
                  refine (R7.out.kind 2 KN2.out).mono ?_
                  rintro e w9 ⟨rfl, rfl⟩
                  go_wp2_with fail
                  refine (R7.out.kind 3 KN3.out).mono ?_
                  rintro e w9 ⟨rfl, rfl⟩
                  go_wp2_with fail
                  refine (R7.out.kind 1 KN1.out).mono ?_
                  rintro e w9 ⟨rfl, rfl⟩
                  go_wp2_with fail
                  refine (R7.out.mayN (b := ⟨#[40]⟩) rfl ANP.out).mono ?_
                  rintro e w9 ⟨rfl, rfl⟩
                  go_wp2_with fail
                  refine (R7.out.mayN (b := ⟨#[114, 101, 97, 100]⟩) rfl ANR.out).mono ?_
                  rintro e w9 ⟨rfl, rfl⟩
                  go_wp2_with fail
                  refine (R7.out.mayY (b := ⟨#[108, 101, 110]⟩) rfl AY.out).mono ?_
                  rintro e w8 ⟨rfl, R8⟩
                  obtain ⟨m0, m1, m2, m3, m4, m5, mf, ml⟩ := (R8.out.six6 (.head _)).six
                  go_wp2_with fail
                  refine R8.out.nt HR.out (fun r1 h1 => (H m (by omega)).2.1 _ pB en _ r1 R8.out.pat h1) trivial (fun fl w' e ht => ?_) (fun a v s9 w9 hr9 hl9 R9 hv => ?_)
                  · subst e; go_wp2_with fail; exact ⟨rfl, rfl, ht⟩
                  obtain ⟨ka, kc, rfl⟩ := hv
                  obtain rfl : r = .ok (.mk 14 [] [] 0 [a] p, s9) := by simpa [PM.pure] using hr9.symm
                  obtain ⟨q0, q1, q2, q3, q4, q5, qf, ql⟩ := (R9.out.six6 (.head _)).six
                  have R10 := Lib.hid (((R9.out.set (one_ne hne) 0 (.int .i64 14)).set (one_ne hne) 4 (.slice (some ⟨w9.heap.size, 0, none⟩) 1 1)).row1 (T := 79) w9.heap.size (by simp [World.setCell]))
                  obtain ⟨t0, t1, t2, t3, t4, t5, tf, tl⟩ := (R10.out.six6 (.head _)).six
                  obtain ⟨r0, r1, r2, r3, r4, r5, rf, rl⟩ := (R10.out.six6 (.tail _ (.head _))).six
                  clear hr9
                  go_wp2_with fail
                  exact R10.out.fin (NodeD.mk 14 [] [] 0 [a] p) _ rfl rfl rfl (.tail _ (.head _)) (.head _)
                | false =>
                  rw [if_neg (by rw [aL]; decide)] at hr
                  have ANL := Lib.hid aL
                  clear aL
                  cases aN : aheadP s 0 [110, 101, 119] with
                  | true =>
                    rw [if_pos aN] at hr
                    have AY := Lib.hid aN
                    have HR := Lib.hid hr
                    clear hr aN
                    go_wp2_with fail
                    refine (R7.out.kind 2 KN2.out).mono ?_
                    rintro e w9 ⟨rfl, rfl⟩
                    go_wp2_with fail
                    refine (R7.out.kind 3 KN3.out).mono ?_
                    rintro e w9 ⟨rfl, rfl⟩
                    go_wp2_with fail
                    refine (R7.out.kind 1 KN1.out).mono ?_
                    rintro e w9 ⟨rfl, rfl⟩
                    go_wp2_with fail
                    refine (R7.out.mayN (b := ⟨#[40]⟩) rfl ANP.out).mono ?_
                    rintro e w9 ⟨rfl, rfl⟩
                    go_wp2_with fail
                    refine (R7.out.mayN (b := ⟨#[114, 101, 97, 100]⟩) rfl ANR.out).mono ?_
                    rintro e w9 ⟨rfl, rfl⟩
                    go_wp2_with fail
                    refine (R7.out.mayN (b := ⟨#[108, 101, 110]⟩) rfl ANL.out).mono ?_
                    rintro e w9 ⟨rfl, rfl⟩
                    go_wp2_with fail
                    refine (R7.out.mayY (b := ⟨#[110, 101, 119]⟩) rfl AY.out).mono ?_
                    rintro e w8 ⟨rfl, R8⟩
                    obtain ⟨m0, m1, m2, m3, m4, m5, mf, ml⟩ := (R8.out.six6 (.head _)).six
                    go_wp2_with fail
                    refine ((H m (by omega)).2.2 _ pB en _ r p R8.out.pat HR.out).mono ?_
                    rintro e w9 hE
                    cases r with
                    | error f =>
                      obtain ⟨rfl, ht⟩ := hE
                      go_wp2_with fail
                      exact ⟨rfl, rfl, Tch.trans R8.out.tch ht⟩
                    | ok y =>
                      obtain ⟨a, s9⟩ := y
                      obtain ⟨⟨v, rfl, hk⟩, hp9, ht⟩ := hE
                      have R9 := Lib.hid (R8.out.node hp9 ht hk)
                      obtain ⟨ka, kc, rfl⟩ := hk.form
                      obtain ⟨r0, r1, r2, r3, r4, r5, rf, rl⟩ := (R9.out.six6 (.tail _ (.head _))).six
                      clear hk hp9 ht
                      go_wp2_with fail
                      exact R9.out.fin (a) _ rfl rfl rfl (.tail _ (.head _)) (.head _)
                  | false =>
                    rw [if_neg (by rw [aN]; decide)] at hr
                    have ANN := Lib.hid aN
                    clear aN
                    have cW := R7.out.pat.cells
                    obtain ⟨ao, n, c, hn, hnc, hcm, hbP, hcW⟩ := cW
                    have cP : V3.cell? ⟨pB, 0, none⟩ = some (.slice ao n c) := hbP.cell 0
                    obtain ⟨g, o, rfl, hg, hcx⟩ := hcW 0 x (by rw [HS.out]; rfl)
                    have cT := hcx 1 _ rfl
                    rw [Nat.zero_mul, Nat.add_zero] at cT
                    have hn0 : 0 < n := by rw [hn, HS.out]; simp
                    have hn0' : (0 : Int) < (n : Int) := by omega
                    have hL := run_look M7.out (by decide) (mkB x.text)
                    rw [bl_mkB] at hL
                    clear hn hnc hcm hbP hcW hcx hg
                    by_cases k5 : x.kind = 5
                    · have KY := Lib.hid (HK.out 5 true (by simpa using k5))
                      by_cases hv : 0 < lookL valuesL x.text
                      · rw [if_pos ⟨k5, hv⟩] at hr
                        obtain rfl : r = .ok (.mk (lookL valuesL x.text) [] [] 0 [] p, nextP s) := by simpa using hr.symm
                        obtain ⟨z, hz⟩ : ∃ z, z = lookL valuesL x.text := ⟨_, rfl⟩
                        rw [← hz] at hL hv ⊢
                        have hzd : decide (0 < z) = true := decide_eq_true hv
                        have HZ := Lib.hid hz
                        clear hr k5 hz
                        go_wp2_with fail
                        refine (R7.out.kind 2 KN2.out).mono ?_
                        rintro e w9 ⟨rfl, rfl⟩
                        go_wp2_with fail
                        refine (R7.out.kind 3 KN3.out).mono ?_
                        rintro e w9 ⟨rfl, rfl⟩
                        go_wp2_with fail
                        refine (R7.out.kind 1 KN1.out).mono ?_
                        rintro e w9 ⟨rfl, rfl⟩
                        go_wp2_with fail
                        refine (R7.out.mayN (b := ⟨#[40]⟩) rfl ANP.out).mono ?_
                        rintro e w9 ⟨rfl, rfl⟩
                        go_wp2_with fail
                        refine (R7.out.mayN (b := ⟨#[114, 101, 97, 100]⟩) rfl ANR.out).mono ?_
                        rintro e w9 ⟨rfl, rfl⟩
                        go_wp2_with fail
                        refine (R7.out.mayN (b := ⟨#[108, 101, 110]⟩) rfl ANL.out).mono ?_
                        rintro e w9 ⟨rfl, rfl⟩
                        go_wp2_with fail
                        refine (R7.out.mayN (b := ⟨#[110, 101, 119]⟩) rfl ANN.out).mono ?_
                        rintro e w9 ⟨rfl, rfl⟩
                        go_wp2_with fail
                        refine (R7.out.kind 5 KY.out).mono ?_
                        rintro e w9 ⟨rfl, rfl⟩
                        go_wp2_with fail
                        have hnx := next_any V3 pB en x l s.deep (by have := R7.out.pat; rwa [show s = ⟨x :: l, s.deep⟩ from by rw [← HS.out]] at this)
                        refine hnx.mono ?_
                        rintro e w8 ⟨rfl, hp8, ht8⟩
                        have R8 := Lib.hid (R7.out.call (show PAt w8 pB en (nextP s) by rw [nextP, HS.out]; exact hp8) ht8)
                        have hL8 := run_look (M7.out.tch ht8 (by omega)) (by decide) (mkB x.text)
                        rw [bl_mkB, ← HZ.out] at hL8
                        clear hp8 ht8 hnx
                        have hfd : ∀ w : World, (Instr.field 36 (.agg #[.int .i64 x.kind, .string (mkB x.text), .int .i64 x.n, .int .i64 x.at_]) 1).run Tryz.prog w = .ok (.string (mkB x.text)) w := fun _ => by kernel_rfl
                        obtain ⟨m0, m1, m2, m3, m4, m5, mf, ml⟩ := (R8.out.six6 (.head _)).six
                        have R9 := Lib.hid (R8.out.set (one_ne hne) 0 (.int .i64 z))
                        obtain ⟨q0, q1, q2, q3, q4, q5, qf, ql⟩ := (R9.out.six6 (.head _)).six
                        obtain ⟨r0, r1, r2, r3, r4, r5, rf, rl⟩ := (R9.out.six6 (.tail _ (.head _))).six
                        dsimp only [wval]
                        go_wp2_with fail
                        obtain rfl := HZ.out
                        exact R9.out.nilKid.fin (NodeD.mk (lookL valuesL x.text) [] [] 0 [] p) _ rfl rfl rfl (.tail _ (.head _)) (.head _)
                      · rw [if_neg (fun h => hv h.2)] at hr
                        obtain rfl : r = .error (p, 18) := by simpa [PM.fail] using hr.symm
                        obtain ⟨z, hz⟩ : ∃ z, z = lookL valuesL x.text := ⟨_, rfl⟩
                        rw [← hz] at hL hv
                        have hzd : decide (0 < z) = false := decide_eq_false hv
                        clear hr k5 hz
                        go_wp2_with fail
                        refine (R7.out.kind 2 KN2.out).mono ?_
                        rintro e w9 ⟨rfl, rfl⟩
                        go_wp2_with fail
                        refine (R7.out.kind 3 KN3.out).mono ?_
                        rintro e w9 ⟨rfl, rfl⟩
                        go_wp2_with fail
                        refine (R7.out.kind 1 KN1.out).mono ?_
                        rintro e w9 ⟨rfl, rfl⟩
                        go_wp2_with fail
                        refine (R7.out.mayN (b := ⟨#[40]⟩) rfl ANP.out).mono ?_
                        rintro e w9 ⟨rfl, rfl⟩
                        go_wp2_with fail
                        refine (R7.out.mayN (b := ⟨#[114, 101, 97, 100]⟩) rfl ANR.out).mono ?_
                        rintro e w9 ⟨rfl, rfl⟩
                        go_wp2_with fail
                        refine (R7.out.mayN (b := ⟨#[108, 101, 110]⟩) rfl ANL.out).mono ?_
                        rintro e w9 ⟨rfl, rfl⟩
                        go_wp2_with fail
                        refine (R7.out.mayN (b := ⟨#[110, 101, 119]⟩) rfl ANN.out).mono ?_
                        rintro e w9 ⟨rfl, rfl⟩
                        go_wp2_with fail
                        refine (R7.out.kind 5 KY.out).mono ?_
                        rintro e w9 ⟨rfl, rfl⟩
                        go_wp2_with fail
                        refine (fail_any _ _ _ _).mono ?_
                        rintro e w9 ⟨rfl, rfl⟩
                        go_wp2_with fail
                        exact ⟨rfl, rfl, R7.out.tch⟩
                    · have KY := Lib.hid (HK.out 5 false (by simpa using k5))
                      rw [if_neg (fun h => k5 h.1)] at hr
                      obtain rfl : r = .error (p, 18) := by simpa [PM.fail] using hr.symm
                      clear hr k5
                      go_wp2_with fail
                      refine (R7.out.kind 2 KN2.out).mono ?_
                      rintro e w9 ⟨rfl, rfl⟩
                      go_wp2_with fail
                      refine (R7.out.kind 3 KN3.out).mono ?_
                      rintro e w9 ⟨rfl, rfl⟩
                      go_wp2_with fail
                      refine (R7.out.kind 1 KN1.out).mono ?_
                      rintro e w9 ⟨rfl, rfl⟩
                      go_wp2_with fail
                      refine (R7.out.mayN (b := ⟨#[40]⟩) rfl ANP.out).mono ?_
                      rintro e w9 ⟨rfl, rfl⟩
                      go_wp2_with fail
                      refine (R7.out.mayN (b := ⟨#[114, 101, 97, 100]⟩) rfl ANR.out).mono ?_
                      rintro e w9 ⟨rfl, rfl⟩
                      go_wp2_with fail
                      refine (R7.out.mayN (b := ⟨#[108, 101, 110]⟩) rfl ANL.out).mono ?_
                      rintro e w9 ⟨rfl, rfl⟩
                      go_wp2_with fail
                      refine (R7.out.mayN (b := ⟨#[110, 101, 119]⟩) rfl ANN.out).mono ?_
                      rintro e w9 ⟨rfl, rfl⟩
                      go_wp2_with fail
                      refine (R7.out.kind 5 KY.out).mono ?_
                      rintro e w9 ⟨rfl, rfl⟩
                      go_wp2_with fail
                      refine (fail_any _ _ _ _).mono ?_
                      rintro e w9 ⟨rfl, rfl⟩
                      go_wp2_with fail
                      exact ⟨rfl, rfl, R7.out.tch⟩
end Go.Proofs.YtcaigcmbgihhkaaGreatDoor
namespace Go.Proofs.YtcaigcmbgihhkaaGreatDoor
open Go Go.RowKit Go.Shelf
set_option linter.unusedVariables false
set_option linter.unusedSimpArgs false
attribute [local go_sem] Oper.semAt_some
def SetQ (pB q : Nat) (en p : Int) (w : World) (r : Except Fault (NodeD × PSt)) (e : Ending) (w' : World) : Prop :=
  Touch (fun k => k = pB ∨ k = q) w w' ∧ match r with
  | .error f => e = .panicked (faultC f)
  | .ok (a, s') => e = .returned (.tuple #[]) ∧ ∃ ka kc, Blk w' q 79 #[.int .i64 21, .string ⟨#[]⟩, .string ⟨#[]⟩, .int .i64 0, .slice ka a.kids.length kc, .int .i64 p] ∧ KidsAt (fun k => w.heap.size ≤ k) w' a.kids (.slice ka a.kids.length kc) ∧ PAt w' pB en s' ∧ a = .mk 21 [] [] 0 a.kids p
def SetC (m : Nat) : Prop := ∀ (w : World) (pB q : Nat) (en : Int) (s : PSt) (r : Except Fault (NodeD × PSt)) (p : Int), PAt w pB en s → pB < q → Blk w q 79 #[.int .i64 0, .string ⟨#[]⟩, .string ⟨#[]⟩, .int .i64 0, .slice none 0 0, .int .i64 p] → runP en m (.set p) s = some r →
  Calls Tryz.prog 174 #[.pointer (some ⟨pB, 0, none⟩), .pointer (some ⟨q, 0, none⟩)] w (SetQ pB q en p w r)
set_option maxRecDepth 100000 in
set_option maxHeartbeats 4000000 in
theorem set_any (m : Nat) (H : ∀ k, k < m → NTC k .expr 172 ∧ NTC k .post 201) : SetC m := by
  intro w pB q en s r p h hq hb hr
  cases m with
  | zero => simp [runP] at hr
  | succ m =>
    rw [runP] at hr
    have hpl := h.lt
    have R0 := Lib.hid (Rd.start h)
    have HB := Lib.hid hb
    have HR := Lib.hid hr
    have hql := hb.lt
    have hne : q ≠ pB := by omega
    clear h hr hb
    go_enter Tryz.func174, Tryz.ntmps174
    go_wp2_with fail
    have TT : ∀ {W : World}, Tch pB w W → Touch (fun k => k = pB ∨ k = q) w W := fun h => h.mono (fun k _ hk => .inl hk)
    refine R0.out.nt HR.out (fun r1 h1 => (H m (by omega)).2 _ pB en _ r1 R0.out.pat h1) trivial (fun fl w' e ht => ?_) (fun t v s2 w2 hr2 hl2 R2 hv => ?_)
    · subst e; go_wp2_with fail; exact ⟨rfl, TT ht, rfl⟩
    obtain ⟨ka, kc, rfl⟩ := hv
    have R3 := Lib.hid (R2.out.alloc 79 #[.int .i64 t.op, .string (mkB t.text), .string (mkB t.type), .int .i64 t.n, .slice ka t.kids.length kc, .int .i64 t.at_])
    have HR2 := Lib.hid hr2
    have hw2 := R2.out.size
    clear hr2
    go_wp2_with fail
    refine R3.out.must HR2.out (by simp) rfl (fun fl w' e ht => ?_) (fun s4 w4 hr4 hl4 R4 => ?_)
    · subst e; go_wp2_with fail; exact ⟨rfl, TT ht, rfl⟩
    have HR4 := Lib.hid hr4
    obtain ⟨n0, n1, n2, n3, n4, n5, nf, nl⟩ := (R4.out.six6 (.head _)).six
    have b4 := HB.out.tch R4.out.tch hne
    obtain ⟨q0, q1, q2, q3, q4, q5, qf, ql⟩ := b4.six
    clear hr4 b4
    go_wp2_with fail
    go_region_law (go_simp; go_at_call 172; go_loud (refine R4.out.drew.nt HR4.out (fun r1 h1 => (H m (by omega)).1 _ pB en s4 r1 R4.out.drew.pat h1) trivial (fun fl w' e ht => by subst e; go_wp2_with fail; exact ⟨rfl, TT ht, rfl⟩) (fun a v s5 w5 hr5 hl5 R5 hv => ?_); obtain ⟨ka5, kc5, rfl⟩ := hv; obtain ⟨p0, p1, p2, p3, p4, p5, pf, pl⟩ := (R5.out.six6 (.head _)).six; obtain ⟨t0, t1, t2, t3, t4, t5, tf, tl⟩ := (HB.out.tch R5.out.tch hne).six; have HR5 := Lib.hid hr5; clear hr5))
    all_goals
      have hqs : ∀ k, w.heap.size ≤ k → k ≠ q := fun k hk => by omega
      have hk7 := ((R5.out.kid (a.kids, _) (.head _)).mono (ok' := fun k => w.heap.size ≤ k) (fun k h _ => h.1)).setCell (q := q) (by omega) 0 (.int .i64 21) |>.setCell (q := q) (by omega) 4 (.slice (some ⟨w5.heap.size, 0, none⟩) 2 2)
      have hk8 := ((R5.out.kid (t.kids, _) (.tail _ (.head _))).mono (ok' := fun k => w.heap.size ≤ k) (fun k h _ => h.1)).setCell (q := q) (by omega) 0 (.int .i64 21) |>.setCell (q := q) (by omega) 4 (.slice (some ⟨w5.heap.size, 0, none⟩) 2 2)
      have hsz7 : ((w5.setCell ⟨q, 0, none⟩ (.int .i64 21)).setCell ⟨q, 4, none⟩ (.slice (some ⟨w5.heap.size, 0, none⟩) 2 2)).heap.size = w5.heap.size := by simp [World.setCell]
      have hsw := R5.out.size
      have hrow : KidsAt (fun k => w.heap.size ≤ k) (((w5.setCell ⟨q, 0, none⟩ (.int .i64 21)).setCell ⟨q, 4, none⟩ (.slice (some ⟨w5.heap.size, 0, none⟩) 2 2)).alloc (.cells #[.int .i64 t.op, .string (mkB t.text), .string (mkB t.type), .int .i64 t.n, .slice ka t.kids.length kc, .int .i64 t.at_, .int .i64 a.op, .string (mkB a.text), .string (mkB a.type), .int .i64 a.n, .slice ka5 a.kids.length kc5, .int .i64 a.at_] 79)) [t, a] (.slice (some ⟨w5.heap.size, 0, none⟩) 2 2) := by
        refine KidsAt.row [(t, .slice ka t.kids.length kc), (a, .slice ka5 a.kids.length kc5)] w5.heap.size 2 2 rfl (fun _ => hsw) (Nat.le_refl _) (by simp [maxLen]) (fun p hp => ?_) (fun i u hu => ?_)
        · rcases List.mem_cons.1 hp with rfl | hp
          · exact hk8.alloc _
          · simp only [List.mem_singleton] at hp
            subst hp
            exact hk7.alloc _
        · have hb := Blk.new ((w5.setCell ⟨q, 0, none⟩ (.int .i64 21)).setCell ⟨q, 4, none⟩ (.slice (some ⟨w5.heap.size, 0, none⟩) 2 2)) 79 #[.int .i64 t.op, .string (mkB t.text), .string (mkB t.type), .int .i64 t.n, .slice ka t.kids.length kc, .int .i64 t.at_, .int .i64 a.op, .string (mkB a.text), .string (mkB a.type), .int .i64 a.n, .slice ka5 a.kids.length kc5, .int .i64 a.at_]
          rw [hsz7] at hb
          rw [hb.cell]
          simpa [ncells] using hu
      have hp7 := ((R5.out.pat.setCell hq 0 (.int .i64 21)).setCell hq 4 (.slice (some ⟨w5.heap.size, 0, none⟩) 2 2)).alloc (.cells #[.int .i64 t.op, .string (mkB t.text), .string (mkB t.type), .int .i64 t.n, .slice ka t.kids.length kc, .int .i64 t.at_, .int .i64 a.op, .string (mkB a.text), .string (mkB a.type), .int .i64 a.n, .slice ka5 a.kids.length kc5, .int .i64 a.at_] 79)
      have ht7 : Touch (fun k => k = pB ∨ k = q) w (((w5.setCell ⟨q, 0, none⟩ (.int .i64 21)).setCell ⟨q, 4, none⟩ (.slice (some ⟨w5.heap.size, 0, none⟩) 2 2)).alloc (.cells #[.int .i64 t.op, .string (mkB t.text), .string (mkB t.type), .int .i64 t.n, .slice ka t.kids.length kc, .int .i64 t.at_, .int .i64 a.op, .string (mkB a.text), .string (mkB a.type), .int .i64 a.n, .slice ka5 a.kids.length kc5, .int .i64 a.at_] 79)) := (((TT R5.out.tch).setCell (p := ⟨q, 0, none⟩) (.inl (.inr rfl)) _).setCell (p := ⟨q, 4, none⟩) (.inl (.inr rfl)) _).alloc _
      have b7 : Blk (((w5.setCell ⟨q, 0, none⟩ (.int .i64 21)).setCell ⟨q, 4, none⟩ (.slice (some ⟨w5.heap.size, 0, none⟩) 2 2)).alloc (.cells #[.int .i64 t.op, .string (mkB t.text), .string (mkB t.type), .int .i64 t.n, .slice ka t.kids.length kc, .int .i64 t.at_, .int .i64 a.op, .string (mkB a.text), .string (mkB a.type), .int .i64 a.n, .slice ka5 a.kids.length kc5, .int .i64 a.at_] 79)) q 79 #[.int .i64 21, .string ⟨#[]⟩, .string ⟨#[]⟩, .int .i64 0, .slice (some ⟨w5.heap.size, 0, none⟩) 2 2, .int .i64 p] := by simpa using (((HB.out.tch R5.out.tch hne).set 0 (.int .i64 21)).set 4 (.slice (some ⟨w5.heap.size, 0, none⟩) 2 2)).alloc (.cells #[.int .i64 t.op, .string (mkB t.text), .string (mkB t.type), .int .i64 t.n, .slice ka t.kids.length kc, .int .i64 t.at_, .int .i64 a.op, .string (mkB a.text), .string (mkB a.type), .int .i64 a.n, .slice ka5 a.kids.length kc5, .int .i64 a.at_] 79)
      have to7 := (((R5.out.six6 (.head _)).other (B' := q) (by omega) 0 (.int .i64 21)).other (B' := q) (by omega) 4 (.slice (some ⟨w5.heap.size, 0, none⟩) 2 2)).alloc (.cells #[.int .i64 t.op, .string (mkB t.text), .string (mkB t.type), .int .i64 t.n, .slice ka t.kids.length kc, .int .i64 t.at_, .int .i64 a.op, .string (mkB a.text), .string (mkB a.type), .int .i64 a.n, .slice ka5 a.kids.length kc5, .int .i64 a.at_] 79)
      generalize hW7 : (((w5.setCell ⟨q, 0, none⟩ (.int .i64 21)).setCell ⟨q, 4, none⟩ (.slice (some ⟨w5.heap.size, 0, none⟩) 2 2)).alloc (.cells #[.int .i64 t.op, .string (mkB t.text), .string (mkB t.type), .int .i64 t.n, .slice ka t.kids.length kc, .int .i64 t.at_, .int .i64 a.op, .string (mkB a.text), .string (mkB a.type), .int .i64 a.n, .slice ka5 a.kids.length kc5, .int .i64 a.at_] 79)) = W7 at hrow hp7 ht7 b7 to7 ⊢
      clear hW7 hk7 hk8 hsz7
      have hw7 := ht7.size
      have HRW := Lib.hid hrow
      have HP7 := Lib.hid hp7
      have HT7 := Lib.hid ht7
      have B7 := Lib.hid b7
      have TO7 := Lib.hid to7
      clear hrow hp7 ht7 b7 to7
      go_wp2_with fail
      refine bind_call HR5.out (fun r1 h1 => must1 W7 _ pB en s5 r1 _ (by simp) _ _ rfl HP7.out h1) (fun fl w' e ht => ?_) ?_
      · subst e; go_wp2_with fail; exact ⟨rfl, Touch.trans HT7.out ht (fun i hi => .inl (.inl hi)), rfl⟩
      rintro _ s8 e w8 hr8 h8 rfl hp8 ht8
      have b8 := Lib.hid (B7.out.tch ht8 hne)
      have hk8 := Lib.hid (HRW.out.tch ht8 (by omega))
      have HT8 : Hid (Touch (fun k => k = pB ∨ k = q) w w8) := Lib.hid (Touch.trans HT7.out ht8 (fun i hi => .inl (.inl hi)))
      obtain ⟨p0, p1, p2, p3, p4, p5, pf, pl⟩ := (TO7.out.tch ht8 (by omega)).six
      have HP8 := Lib.hid hp8
      have HR8 := Lib.hid hr8
      clear hr8 h8 hp8 ht8
      by_cases h7 : t.op = 7
      · have hr := HR8.out
        rw [if_pos (.inl h7)] at hr
        obtain rfl : r = .ok (.mk 21 [] [] 0 [t, a] p, s8) := by simpa using hr.symm
        have e7 : (t.op == 7) = true := beq_iff_eq.2 h7
        have f7 : (t.op != 7) = false := by rw [bne, e7]; rfl
        clear hr h7
        go_wp2_with fail
        (try simp only [Exit.inBlock, Exit.then])
        refine bodyPost_ret (results_none rfl _ _ _) rfl ?_
        exact ⟨HT8.out, rfl, _, _, b8.out, hk8.out, HP8.out, rfl⟩
      · have e7 : (t.op == 7) = false := beq_eq_false_iff_ne.2 h7
        have f7 : (t.op != 7) = true := by rw [bne, e7]; rfl
        by_cases h8 : t.op = 8
        · have hr := HR8.out
          rw [if_pos (.inr (.inl h8))] at hr
          obtain rfl : r = .ok (.mk 21 [] [] 0 [t, a] p, s8) := by simpa using hr.symm
          have e8 : (t.op == 8) = true := beq_iff_eq.2 h8
          have f8 : (t.op != 8) = false := by rw [bne, e8]; rfl
          clear hr h7 h8
          go_wp2_with fail
          (try simp only [Exit.inBlock, Exit.then])
          refine bodyPost_ret (results_none rfl _ _ _) rfl ?_
          exact ⟨HT8.out, rfl, _, _, b8.out, hk8.out, HP8.out, rfl⟩
        · have e8 : (t.op == 8) = false := beq_eq_false_iff_ne.2 h8
          have f8 : (t.op != 8) = true := by rw [bne, e8]; rfl
          by_cases h9 : t.op = 9
          · have hr := HR8.out
            rw [if_pos (.inr (.inr h9))] at hr
            obtain rfl : r = .ok (.mk 21 [] [] 0 [t, a] p, s8) := by simpa using hr.symm
            have e9 : (t.op == 9) = true := beq_iff_eq.2 h9
            have f9 : (t.op != 9) = false := by rw [bne, e9]; rfl
            clear hr h7 h8 h9
            go_wp2_with fail
            (try simp only [Exit.inBlock, Exit.then])
            refine bodyPost_ret (results_none rfl _ _ _) rfl ?_
            exact ⟨HT8.out, rfl, _, _, b8.out, hk8.out, HP8.out, rfl⟩
          · have e9 : (t.op == 9) = false := beq_eq_false_iff_ne.2 h9
            have f9 : (t.op != 9) = true := by rw [bne, e9]; rfl
            have hr := HR8.out
            rw [if_neg (fun h => by rcases h with h | h | h; exact h7 h; exact h8 h; exact h9 h)] at hr
            obtain rfl : r = .error (t.at_, 18) := by simpa [PM.fail] using hr.symm
            clear hr h7 h8 h9
            go_wp2_with fail
            refine (fail_any _ _ _ _).mono ?_
            rintro e w9 ⟨rfl, rfl⟩
            go_wp2_with fail
            exact ⟨rfl, HT8.out, rfl⟩
end Go.Proofs.YtcaigcmbgihhkaaGreatDoor
namespace Go.Proofs.YtcaigcmbgihhkaaGreatDoor
open Go Go.RowKit Go.Shelf
set_option linter.unusedVariables false
set_option linter.unusedSimpArgs false
attribute [local go_sem] Oper.semAt_some
abbrev zrow : List Value := [.int .i64 0, .string ⟨#[]⟩, .string ⟨#[]⟩, .int .i64 0, .slice none 0 0, .int .i64 0]
section
variable {pB : Nat} {en : Int} {w W W' : World} {Ls : List (Nat × TypeId × Array Value)} {Ks : List (List NodeD × Value)} {s s' : PSt}
theorem Rd.nextT {x : WordD} {l : List WordD} (h : Rd pB en w Ls Ks W s) (hs : s.ws = x :: l) : Calls Tryz.prog 103 #[.pointer (some ⟨pB, 0, none⟩)] W fun e w' => e = .returned (.agg #[.int .i64 x.kind, .string (mkB x.text), .int .i64 x.n, .int .i64 x.at_]) ∧ Hid (Rd pB en w Ls Ks w' (nextP s)) ∧ Hid (Tch pB W w') := by
  obtain ⟨ws, dp⟩ := s
  dsimp only at hs
  subst hs
  exact (next_any W pB en x l dp h.pat).mono fun e w' ⟨h1, h2, h3⟩ => ⟨h1, Lib.hid (h.call h2 h3), Lib.hid h3⟩
variable {β : Type} {r : Except Fault (β × PSt)} {Φ : Ending → World → Prop}
theorem Rd.ntT (h : Rd pB en w Ls Ks W s) {f : NodeD → PM β} {m : Nat} {nt : NT} {fn : Nat} {args : Array Value} (hr : PM.bind (runP en m nt) f s = some r) (C : ∀ r1, runP en m nt s = some r1 → Calls Tryz.prog fn args W (PEnd pB en W (NodeQ W) r1)) (hs : strictN nt)
    (hE : ∀ fl w', r = .error fl → Tch pB w w' → Φ (.panicked (faultC fl)) w')
    (hK : ∀ a v s' w', f a s' = some r → s'.ws.length < s.ws.length → Hid (Rd pB en w Ls ((a.kids, v) :: Ks) w' s') → Hid (Tch pB W w') → (∃ ka kc, v = .slice ka a.kids.length kc) → Φ (.returned (.agg #[.int .i64 a.op, .string (mkB a.text), .string (mkB a.type), .int .i64 a.n, v, .int .i64 a.at_])) w') : Calls Tryz.prog fn args W Φ := by
  refine bind_call hr C (fun fl w' e ht => hE fl w' e (Tch.trans h.tch ht)) ?_
  rintro a s' e w' h2 h1 ⟨v, rfl, hk⟩ hp ht
  exact hK a v s' w' h2 (ln_run en m nt hs _ _ _ h1) (Lib.hid (h.node hp ht hk)) (Lib.hid ht) hk.form
theorem Rd.forget {x : Nat × TypeId × Array Value} (h : Rd pB en w (x :: Ls) Ks W s) : Rd pB en w Ls Ks W s :=
  ⟨h.pat, h.tch, fun y hy => h.blk y (List.mem_cons_of_mem _ hy), fun y hy => (h.kid y hy).mono (fun k hk _ => ⟨hk.1, fun z hz => hk.2 z (List.mem_cons_of_mem _ hz)⟩), h.plt⟩
theorem Rd.setq {q : Nat} {cs0 : Array Value} {p : Int} {a : NodeD} {e : Ending} (h : Rd pB en w ((q, 79, cs0) :: Ls) Ks W s) (hd : ∀ y ∈ Ls, y.1 ≠ q) (hS : SetQ pB q en p W (.ok (a, s')) e W') :
    e = .returned (.tuple #[]) ∧ a = .mk 21 [] [] 0 a.kids p ∧ ∃ ka kc, Hid (Rd pB en w ((q, 79, #[.int .i64 21, .string ⟨#[]⟩, .string ⟨#[]⟩, .int .i64 0, .slice ka a.kids.length kc, .int .i64 p]) :: Ls) ((a.kids, .slice ka a.kids.length kc) :: Ks) W' s') := by
  obtain ⟨ht, he, ka, kc, hb, hk, hp, ha⟩ := hS
  have hq := (h.blk _ (.head _)).2
  have hql := (h.blk _ (.head _)).1.lt
  have hpl := h.plt
  refine ⟨he, ha, ka, kc, Lib.hid ⟨hp, ?_, fun x hx => ?_, fun x hx => ?_, h.plt⟩⟩
  · exact Touch.trans h.tch ht (fun i hi => by
      rcases hi with rfl | rfl
      · exact .inl rfl
      · exact .inr ⟨hq, hql⟩)
  · rcases List.mem_cons.1 hx with rfl | hx
    · exact ⟨hb, hq⟩
    · have := h.blk x (List.mem_cons_of_mem _ hx)
      exact ⟨this.1.touch ht (fun hh => by
        rcases hh with hh | hh
        · have := this.2; omega
        · exact hd x hx hh), this.2⟩
  · rcases List.mem_cons.1 hx with rfl | hx
    · refine hk.mono (fun k hk hl => ⟨Nat.le_trans h.size hk, fun y hy => ?_⟩)
      rcases List.mem_cons.1 hy with rfl | hy
      · show k ≠ q
        have : q < W.heap.size := hql
        omega
      · have := (h.blk y (List.mem_cons_of_mem _ hy)).1.lt
        omega
    · refine (h.kid x hx).keep (fun k hk _ => ⟨hk.1, fun y hy => ?_⟩) (fun k hk hl => ht.block k hl (fun hh => ?_))
      · rcases List.mem_cons.1 hy with rfl | hy
        · exact hk.2 (q, 79, cs0) (.head _)
        · exact hk.2 y (List.mem_cons_of_mem _ hy)
      · rcases hh with hh | hh
        · have := hk.1; omega
        · exact hk.2 _ (.head _) hh
theorem Rd.unrow {g : Nat} {T : TypeId} {row : Array Value} (h : Rd pB en w ((g, T, row) :: Ls) Ks W s) (ps : List (NodeD × Value)) (n : Nat) (hn : n = ps.length) (hm : n ≤ 1000) (hrow : row.toList = ps.flatMap fun p => ncells p.1 p.2) (hK : ∀ p ∈ ps, (p.1.kids, p.2) ∈ Ks) (hg : ∀ y ∈ Ls, g ≠ y.1) : Rd pB en w Ls ((ps.map Prod.fst, .slice (some ⟨g, 0, none⟩) n n) :: Ks) W s := by
  have hb := h.blk _ (.head _)
  have hb1 : Blk W g T row := hb.1
  refine h.forget.keep (KidsAt.row ps g n n hn.symm (fun _ => ⟨hb.2, hg⟩) (Nat.le_refl _) (by unfold maxLen; omega) (fun p hp => (h.forget.kid _ (hK p hp))) (fun i u hu => ?_))
  rw [hb1.cell, ← hu, ← hrow, Array.getElem?_toList]
theorem Rd.appZero {g0 nB rB g cap : Nat} {row cr : Array Value} {o tx ty nn ap : Value} {w3 : World} (ps : List (NodeD × Value)) (b : NodeD) (vb : Value) (n : Nat) (hn : n = ps.length)
    (h : Rd pB en w [(g0, 79, row), (nB, 79, #[o, tx, ty, nn, .slice (some ⟨g0, 0, none⟩) n n, ap]), (rB, 79, cr)] Ks W s) (hrow : row.toList = ps.flatMap fun p => ncells p.1 p.2) (hK : ∀ p ∈ ps, (p.1.kids, p.2) ∈ Ks) (hb : (b.kids, vb) ∈ Ks)
    (h1 : rB < nB) (h2 : nB < g0) (ho : w3.ownsRow (nB + 1) 79 6 (.slice (some ⟨g, 0, none⟩) (n + 1) cap) (n + 1) (row.toList ++ zrow)) (hg : W.grownBy w3 (some g0)) (hat : some g0 = some g ∨ g = W.heap.size) :
    Rd pB en w [(nB, 79, #[o, tx, ty, nn, .slice (some ⟨g, 0, none⟩) (n + 1) cap, ap]), (rB, 79, cr)] [(ps.map Prod.fst ++ [b], .slice (some ⟨g, 0, none⟩) (n + 1) cap)]
      (((((((w3.setCell ⟨g, n * 6, none⟩ (.int .i64 b.op)).setCell ⟨g, n * 6 + 1, none⟩ (.string (mkB b.text))).setCell ⟨g, n * 6 + 2, none⟩ (.string (mkB b.type))).setCell ⟨g, n * 6 + 3, none⟩ (.int .i64 b.n)).setCell ⟨g, n * 6 + 4, none⟩ vb).setCell ⟨g, n * 6 + 5, none⟩ (.int .i64 b.at_)).setCell ⟨nB, 4, none⟩ (.slice (some ⟨g, 0, none⟩) (n + 1) cap)) s := by
  subst hn
  have hpl := h.plt
  have hb0 := h.blk _ (.head _)
  have hbn := h.blk _ (.tail _ (.head _))
  have hbr := h.blk _ (.tail _ (.tail _ (.head _)))
  have hg0l : g0 < W.heap.size := hb0.1.lt
  have hbn1 : Blk W nB 79 #[o, tx, ty, nn, .slice (some ⟨g0, 0, none⟩) ps.length ps.length, ap] := hbn.1
  have hbn2 : w.heap.size ≤ nB := hbn.2
  have hbr2 : w.heap.size ≤ rB := hbr.2
  have hgl := ho.lt g rfl
  have hlen : row.toList.length = ps.length * 6 := by have := ho.1; simp only [List.length_append, List.length_cons, List.length_nil] at this; omega
  have hne : ∀ k, k ≤ nB → some k ≠ some g0 := fun k hk e => by cases e; omega
  have hgn : nB < g := by omega
  have e1 := ho.stored (ps.length * 6) (.int .i64 b.op)
  have e2 := e1.1.stored (ps.length * 6 + 1) (.string (mkB b.text))
  have e3 := e2.1.stored (ps.length * 6 + 2) (.string (mkB b.type))
  have e4 := e3.1.stored (ps.length * 6 + 3) (.int .i64 b.n)
  have e5 := e4.1.stored (ps.length * 6 + 4) vb
  have e6 := e5.1.stored (ps.length * 6 + 5) (.int .i64 b.at_)
  have hcells : ((((((row.toList ++ zrow).set (ps.length * 6) (.int .i64 b.op)).set (ps.length * 6 + 1) (.string (mkB b.text))).set (ps.length * 6 + 2) (.string (mkB b.type))).set (ps.length * 6 + 3) (.int .i64 b.n)).set (ps.length * 6 + 4) vb).set (ps.length * 6 + 5) (.int .i64 b.at_) = (ps ++ [(b, vb)]).flatMap fun p => ncells p.1 p.2 := by
    rw [← hlen]
    simp only [List.set_append, Nat.lt_irrefl, Nat.sub_self, Nat.add_sub_cancel_left, Nat.not_lt_of_le, Nat.le_add_right, if_false, List.set_cons_zero, List.set_cons_succ]
    rw [List.flatMap_append, ← hrow]
    simp [ncells]
  rw [hcells] at e6
  have T6 : Touch (fun k => k = g) w3 ((((((w3.setCell ⟨g, ps.length * 6, none⟩ (.int .i64 b.op)).setCell ⟨g, ps.length * 6 + 1, none⟩ (.string (mkB b.text))).setCell ⟨g, ps.length * 6 + 2, none⟩ (.string (mkB b.type))).setCell ⟨g, ps.length * 6 + 3, none⟩ (.int .i64 b.n)).setCell ⟨g, ps.length * 6 + 4, none⟩ vb).setCell ⟨g, ps.length * 6 + 5, none⟩ (.int .i64 b.at_)) :=
    ((((((Touch.refl (fun k => k = g) w3).setCell (p := ⟨g, ps.length * 6, none⟩) (.inl rfl) _).setCell (p := ⟨g, ps.length * 6 + 1, none⟩) (.inl rfl) _).setCell (p := ⟨g, ps.length * 6 + 2, none⟩) (.inl rfl) _).setCell (p := ⟨g, ps.length * 6 + 3, none⟩) (.inl rfl) _).setCell (p := ⟨g, ps.length * 6 + 4, none⟩) (.inl rfl) _).setCell (p := ⟨g, ps.length * 6 + 5, none⟩) (.inl rfl) _
  have e6a := e6.1
  generalize ((((((w3.setCell ⟨g, ps.length * 6, none⟩ (.int .i64 b.op)).setCell ⟨g, ps.length * 6 + 1, none⟩ (.string (mkB b.text))).setCell ⟨g, ps.length * 6 + 2, none⟩ (.string (mkB b.type))).setCell ⟨g, ps.length * 6 + 3, none⟩ (.int .i64 b.n)).setCell ⟨g, ps.length * 6 + 4, none⟩ vb).setCell ⟨g, ps.length * 6 + 5, none⟩ (.int .i64 b.at_)) = W6 at e6a T6 ⊢
  clear e1 e2 e3 e4 e5 e6 hcells
  have keep : ∀ k, k < W.heap.size → k ≠ g0 → W6.heap[k]? = W.heap[k]? := fun k hl hk => by
    have hkg : k ≠ g := by
      rcases hat with e | e
      · cases e; exact hk
      · omega
    exact (T6.block k (Nat.lt_of_lt_of_le hl hg.size) hkg).trans (hg.block k hl (fun e => hk (by cases e; rfl)))
  have hW6 : W.heap.size ≤ W6.heap.size := Nat.le_trans hg.size T6.size
  have hb6 : Blk W6 nB 79 #[o, tx, ty, nn, .slice (some ⟨g0, 0, none⟩) ps.length ps.length, ap] := (keep nB (by omega) (by omega)).trans hbn1
  have hpat : PAt W6 pB en s := h.pat.block (fun k hk => keep k (by omega) (by omega))
  have htch : Tch pB w W6 := ⟨(T6.os.trans hg.os).trans h.tch.os, (T6.tape.trans hg.tape).trans h.tch.tape, (T6.output.trans hg.output).trans h.tch.output, Nat.le_trans h.tch.size hW6, fun k hk hS => (keep k (by have := h.size; omega) (by omega)).trans (h.tch.block k hk hS)⟩
  have hrow6 : KidsOw (fun k => w.heap.size ≤ k ∧ k ≠ nB ∧ k ≠ rB) (nB + 1) W6 (.slice (some ⟨g, 0, none⟩) (ps.length + 1) cap) (ps.map Prod.fst ++ [b]) := by
    refine ⟨ps ++ [(b, vb)], by simp, by simpa using e6a, fun p hp => ?_⟩
    have hpk : (p.1.kids, p.2) ∈ Ks := by
      rcases List.mem_append.1 hp with hp | hp
      · exact hK p hp
      · simp only [List.mem_singleton] at hp
        subst hp
        exact hb
    refine (h.kid _ hpk).keep (fun k hk hl => ⟨⟨hk.1, hk.2 _ (.tail _ (.head _)), hk.2 _ (.tail _ (.tail _ (.head _)))⟩, ?_⟩) (fun k hk hl => keep k hl (hk.2 _ (.head _)))
    have hk0 : k ≠ g0 := hk.2 _ (.head _)
    have hkg : k ≠ g := by
      rcases hat with e | e
      · cases e; exact hk0
      · omega
    intro e2
    simp only [Value.ownBlock, Option.some.injEq] at e2
    exact hkg e2
  refine ⟨hpat.setCell (by omega) 4 _, Touch.setCell (p := ⟨nB, 4, none⟩) htch (.inr ⟨hbn2, hb6.lt⟩) _, fun x hx => ?_, fun x hx => ?_, hpl⟩
  · rcases List.mem_cons.1 hx with rfl | hx
    · exact ⟨by simpa using hb6.set 4 (.slice (some ⟨g, 0, none⟩) (ps.length + 1) cap), hbn2⟩
    · simp only [List.mem_singleton] at hx
      subst hx
      have hbr1 : Blk W rB 79 cr := hbr.1
      have hr6 : Blk W6 rB 79 cr := (keep rB (by omega) (by omega)).trans hbr1
      exact ⟨hr6.other (by omega) 4 _, hbr2⟩
  · simp only [List.mem_singleton] at hx
    subst hx
    refine ((hrow6.kids (fun k hk => ⟨by omega, by omega, by omega⟩)).setCell (q := nB) (fun hk => hk.2.1 rfl) 4 _).mono (fun k hk _ => ⟨hk.1, fun y hy => ?_⟩)
    rcases List.mem_cons.1 hy with rfl | hy
    · exact hk.2.1
    · simp only [List.mem_singleton] at hy
      subst hy
      exact hk.2.2
end
theorem setCell_comm (W : World) (a b i j : Nat) (u v : Value) (h : a ≠ b) : (W.setCell ⟨a, i, none⟩ u).setCell ⟨b, j, none⟩ v = (W.setCell ⟨b, j, none⟩ v).setCell ⟨a, i, none⟩ u := by
  unfold World.setCell
  simp only
  congr 1
  apply Array.ext_getElem?
  intro k
  simp only [Array.getElem?_modify]
  by_cases h1 : k = a
  · subst h1
    by_cases h2 : b = k
    · exact absurd h2.symm h
    · simp [h2, Ne.symm h]
  · by_cases h2 : k = b
    · subst h2
      simp [h, h1]
    · simp [Ne.symm h1, Ne.symm h2]
theorem six_comm (W : World) (n g i j0 j1 j2 j3 j4 j5 : Nat) (u a b c d e f : Value) (h : n ≠ g) :
    ((((((W.setCell ⟨n, i, none⟩ u).setCell ⟨g, j0, none⟩ a).setCell ⟨g, j1, none⟩ b).setCell ⟨g, j2, none⟩ c).setCell ⟨g, j3, none⟩ d).setCell ⟨g, j4, none⟩ e).setCell ⟨g, j5, none⟩ f = ((((((W.setCell ⟨g, j0, none⟩ a).setCell ⟨g, j1, none⟩ b).setCell ⟨g, j2, none⟩ c).setCell ⟨g, j3, none⟩ d).setCell ⟨g, j4, none⟩ e).setCell ⟨g, j5, none⟩ f).setCell ⟨n, i, none⟩ u := by
  rw [setCell_comm _ n g i j0 _ _ h, setCell_comm _ n g i j1 _ _ h, setCell_comm _ n g i j2 _ _ h, setCell_comm _ n g i j3 _ _ h, setCell_comm _ n g i j4 _ _ h, setCell_comm _ n g i j5 _ _ h]
end Go.Proofs.YtcaigcmbgihhkaaGreatDoor
