/-
  Part of a proof: ParAF, ParAG, ParAE, ParAH, ParAI, ParAJ, ParAK, ParAL.
-/
import Derived.Test.YtcaigcmbgihhkaaGreatDoorZParAC
import Derived.Defers
import Derived.Recover
import Derived.Laws.Pointers
import Derived.BigRegion
import Derived.Test.YtcaigcmbgihhkaaGreatDoorZParZ
import Derived.Test.YtcaigcmbgihhkaaGreatDoorZIt
import Derived.Deep.RegionLaw
import Derived.Test.YtcaigcmbgihhkaaGreatDoorZTwo
namespace Go.Proofs.YtcaigcmbgihhkaaGreatDoor
open Go Go.RowKit Go.Shelf
set_option linter.unusedVariables false
set_option linter.unusedSimpArgs false
attribute [local go_sem] Oper.semAt_some
theorem wp_abs {P : Program} {c : Code} {Q : Exit → Act → World → Prop} {a : Act} {w : World} (Good : Act → World → Prop) (h : ∀ Q' : Exit → Act → World → Prop, (∀ a' w', Good a' w' → Q' .normal a' w') → c.wp P Q' a w) (hg : ∀ a' w', Good a' w' → Q .normal a' w') : c.wp P Q a w := h Q hg
set_option maxRecDepth 100000 in
set_option maxHeartbeats 1000000 in
theorem catch_panicking (n : Nat) (v0 v1 v2 : Value) (f : Fault) (older : List PanicEntry) (w : World) (b0 : Blk w n 37 #[v0]) (b1 : Blk w (n + 1) 3 #[v1]) (b2 : Blk w (n + 1 + 1) 23 #[v2]) :
    CallsD Tryz.prog 34 #[.pointer (some ⟨n, 0, none⟩), .pointer (some ⟨n + 1, 0, none⟩), .pointer (some ⟨n + 1 + 1, 0, none⟩)] (.panicking ({ v := .iface 84 (.agg #[.int .i64 f.1, .int .i64 f.2]), recovered := false } :: older)) w fun e u' w' =>
      e = .returned (.tuple #[]) ∧ u' = .panicking ({ v := .iface 84 (.agg #[.int .i64 f.1, .int .i64 f.2]), recovered := true } :: older) ∧ Blk w' n 37 #[.slice none 0 0] ∧ Blk w' (n + 1) 3 #[.int .i64 f.1] ∧ Blk w' (n + 1 + 1) 23 #[.int .i64 f.2] ∧ Touch (fun k => k = n ∨ k = n + 1 ∨ k = n + 1 + 1) w w' := by
  have hta : ∀ w : World, (Instr.typeAssert (.iface 84 (.agg #[.int .i64 f.1, .int .i64 f.2])) 20 84 true).run Tryz.prog w = .ok (.tuple #[.agg #[.int .i64 f.1, .int .i64 f.2], .bool true]) w := fun _ => by kernel_rfl
  refine callsD_of_wpS Tryz.func34 rfl fun c₀ cs hu => ?_
  apply wpS_seq
  apply wpS_region
  simp [wpOpsS, go_sem, recoverD, hu, hta, Tryz.ntmps34, Exit.thenS]
  apply wpS_seq
  apply wpS_region
  simp [wpOpsS, go_sem, Exit.thenS]
  refine wpS_cond (t := true) (by simp [Act.eval, Array.replicate]) ?_
  simp only [if_true]
  refine wpS_of_wp ?_
  have hn0 := b0.lt
  have hn1 := b1.lt
  have hn2 := b2.lt
  have q0 := b0.alloc (.cells #[.int .i64 f.1, .int .i64 f.2] 84)
  have q1 := b1.alloc (.cells #[.int .i64 f.1, .int .i64 f.2] 84)
  have q2 := b2.alloc (.cells #[.int .i64 f.1, .int .i64 f.2] 84)
  have q3 := Blk.new w 84 #[.int .i64 f.1, .int .i64 f.2]
  have t0 := (Touch.refl (fun k => k = n ∨ k = n + 1 ∨ k = n + 1 + 1) w).alloc (.cells #[.int .i64 f.1, .int .i64 f.2] 84)
  have hwn : n + 1 + 1 < w.heap.size := hn2
  generalize hW : w.alloc (.cells #[.int .i64 f.1, .int .i64 f.2] 84) = W at q0 q1 q2 q3 t0 ⊢
  have c0 := q0.cell 0
  have c1 := q1.cell 0
  have c2 := q2.cell 0
  have c3 := q3.cell 0
  have c4 := q3.cell 1
  have f0 := q0.frozen 0
  have f1 := q1.frozen 0
  have f2 := q2.frozen 0
  have hnw : ¬ n = w.heap.size := by omega
  have hnw1 : ¬ n + 1 = w.heap.size := by omega
  have hnw2 : ¬ n + 1 + 1 = w.heap.size := by omega
  have hrep : Array.replicate 12 undef = #[undef, undef, undef, undef, undef, undef, undef, undef, undef, undef, undef, undef] := rfl
  simp only [hrep, List.setIfInBounds_toArray, List.set_cons_zero, List.set_cons_succ, List.append_toArray, List.cons_append, List.nil_append]
  have Q0 := Lib.hid q0
  have Q1 := Lib.hid q1
  have Q2 := Lib.hid q2
  have T0 := Lib.hid t0
  clear q0 q1 q2 q3 t0 hW b0 b1 b2
  refine wp_abs (fun a' w' => a'.defers = [] ∧ Blk w' n 37 #[.slice none 0 0] ∧ Blk w' (n + 1) 3 #[.int .i64 f.1] ∧ Blk w' (n + 1 + 1) 23 #[.int .i64 f.2] ∧ Touch (fun k => k = n ∨ k = n + 1 ∨ k = n + 1 + 1) w w') ?_ ?_
  · intro Q' hQ'
    have HQ' := Lib.hid hQ'
    clear hQ' hu hta
    go_region
    all_goals
      refine HQ'.out _ _ ⟨rfl, ?_, ?_, ?_, ?_⟩
      · exact ((by simpa using Q0.out.set 0 (.slice none 0 0) : Blk (W.setCell ⟨n, 0, none⟩ (.slice none 0 0)) n 37 #[.slice none 0 0]).other (by omega) 0 _).other (by omega) 0 _
      · exact (by simpa using (Q1.out.other (B' := n) (by omega) 0 (.slice none 0 0)).set 0 (.int .i64 f.1) : Blk ((W.setCell ⟨n, 0, none⟩ (.slice none 0 0)).setCell ⟨n + 1, 0, none⟩ (.int .i64 f.1)) (n + 1) 3 #[.int .i64 f.1]).other (by omega) 0 _
      · have := ((Q2.out.other (B' := n) (by omega) 0 (.slice none 0 0)).other (B' := n + 1) (by omega) 0 (.int .i64 f.1)).set 0 (.int .i64 f.2)
        exact Blk.drew (by simpa using this)
      · exact (((T0.out.setCell (p := ⟨n, 0, none⟩) (.inl (.inl rfl)) _).setCell (p := ⟨n + 1, 0, none⟩) (.inl (.inr (.inl rfl))) _).setCell (p := ⟨n + 1 + 1, 0, none⟩) (.inl (.inr (.inr rfl))) _).drew
  · rintro a' w' ⟨hd, h0, h1, h2, h3⟩
    simp [bodyPostS, results, Tryz.results34, go_sem, hd]
    exact ⟨h0, h1, h2, h3⟩
set_option maxRecDepth 100000 in
set_option maxHeartbeats 1000000 in
theorem catch_idle (n : Nat) (w : World) :
    CallsD Tryz.prog 34 #[.pointer (some ⟨n, 0, none⟩), .pointer (some ⟨n + 1, 0, none⟩), .pointer (some ⟨n + 1 + 1, 0, none⟩)] .returning w fun e u' w' =>
      e = .returned (.tuple #[]) ∧ u' = .returning ∧ ∃ o, w' = w.alloc o := by
  have hta : ∀ w : World, (Instr.typeAssert .nilIface 20 84 true).run Tryz.prog w = .ok (.tuple #[.agg #[.int .i64 0, .int .i64 0], .bool false]) w := fun _ => by kernel_rfl
  refine callsD_of_wpS Tryz.func34 rfl fun c₀ cs hu => ?_
  apply wpS_seq
  apply wpS_region
  simp [wpOpsS, go_sem, recoverD, hu, hta, Tryz.ntmps34, Exit.thenS]
  apply wpS_seq
  apply wpS_region
  simp [wpOpsS, go_sem, Exit.thenS]
  refine wpS_cond (t := false) (by simp [Act.eval, Array.replicate]) ?_
  simp only [Bool.false_eq_true, if_false]
  refine wpS_of_wp (wp_skip ?_)
  cases c₀
  simp_all [bodyPostS, results, Tryz.results34]
  exact ⟨_, rfl⟩
end Go.Proofs.YtcaigcmbgihhkaaGreatDoor
namespace Go.Proofs.YtcaigcmbgihhkaaGreatDoor
open Go Go.RowKit Go.Shelf
set_option linter.unusedVariables false
end Go.Proofs.YtcaigcmbgihhkaaGreatDoor
namespace Go.Proofs.YtcaigcmbgihhkaaGreatDoor
open Go Go.RowKit Go.Shelf
set_option linter.unusedVariables false
theorem all_steps : ∀ m, NTC m .block 106 ∧ NTC m .stmt 140 ∧ NTC m .expr 172 ∧ NTC m .round 173 ∧ NTC m .un 219 ∧ NTC m .post 201 ∧ NTC m .prim 221 ∧ RankC m ∧ ListC m ∧ MadeC m ∧ SetC m := fun m => by
  induction m using Nat.strongRecOn with
  | _ m ih =>
    refine ⟨block_any m (fun k hk => (ih k hk).2.1), stmt_any m (fun k hk => ⟨(ih k hk).2.2.1, (ih k hk).2.2.2.1, (ih k hk).1, (ih k hk).2.2.2.2.2.2.2.2.2.2⟩), expr_any m (fun k hk => (ih k hk).2.2.2.2.2.2.2.1), round_any m (fun k hk => (ih k hk).2.2.1),
      un_any m (fun k hk => ⟨(ih k hk).2.2.2.2.1, (ih k hk).2.2.2.2.2.1⟩), post_any m (fun k hk => ⟨(ih k hk).2.2.1, (ih k hk).2.2.2.2.2.2.1, (ih k hk).2.2.2.2.2.2.2.2.1⟩), prim_any m (fun k hk => ⟨(ih k hk).2.2.1, (ih k hk).2.2.2.1, (ih k hk).2.2.2.2.2.2.2.2.2.1⟩), rank_any m (fun k hk => ⟨(ih k hk).2.2.2.2.2.2.2.1, (ih k hk).2.2.2.2.1⟩),
      list_any m (fun k hk => (ih k hk).2.2.1), made_any m (fun k hk => (ih k hk).2.2.1), set_any m (fun k hk => ⟨(ih k hk).2.2.1, (ih k hk).2.2.2.2.2.1⟩)⟩
theorem class_all (m : Nat) (w : World) (pB : Nat) (en : Int) (s : PSt) (r : Except Fault (ClassD × PSt)) (h : PAt w pB en s) (hr : classP en m s = some r) :
    Calls Tryz.prog 35 #[.pointer (some ⟨pB, 0, none⟩)] w (PEnd pB en w (ClassQ w) r) := class_any m (all_steps m).1 w pB en s r h hr
end Go.Proofs.YtcaigcmbgihhkaaGreatDoor
namespace Go.Proofs.YtcaigcmbgihhkaaGreatDoor
open Go Go.RowKit Go.Shelf
set_option linter.unusedVariables false
set_option linter.unusedSimpArgs false
attribute [local go_sem] Oper.semAt_some
def ccells (m : ClassD) (tv kv : Value) : List Value := [.string (mkB m.name), .string (mkB m.super), tv, kv, .int .i64 m.at_]
def ClassIn (ok : Nat → Prop) (W : World) (m : ClassD) (tv kv : Value) : Prop := ParamsAt ok W m.fields tv ∧ MethodsAt ok W m.methods kv
theorem ClassIn.keep {ok ok' : Nat → Prop} {W W' : World} {m : ClassD} {tv kv : Value} (h : ClassIn ok W m tv kv) (hok : ∀ k, ok k → k < W.heap.size → ok' k) (hw : ∀ k, ok k → k < W.heap.size → W'.heap[k]? = W.heap[k]?) : ClassIn ok' W' m tv kv := ⟨h.1.keep hok hw, h.2.keep hok hw⟩
def ClassesAt (ok : Nat → Prop) (W : World) (l : List ClassD) (v : Value) : Prop :=
  ∃ ao c, v = .slice ao l.length c ∧ l.length ≤ c ∧ c ≤ maxLen ∧ ∃ tv kv : Nat → Value, (∀ j m, l[j]? = some m → ClassIn ok W m (tv j) (kv j)) ∧ (l ≠ [] → ∃ g o, ao = some ⟨g, o, none⟩ ∧ ok g ∧ ∀ j m i u, l[j]? = some m → (ccells m (tv j) (kv j))[i]? = some u → W.cell? ⟨g, o + j * 5 + i, none⟩ = some u)
theorem ClassesAt.form {ok : Nat → Prop} {W : World} {l : List ClassD} {v : Value} (h : ClassesAt ok W l v) : ∃ ao c, v = .slice ao l.length c := by
  obtain ⟨ao, c, h, _⟩ := h
  exact ⟨ao, c, h⟩
theorem ClassesAt.keep {ok ok' : Nat → Prop} {W W' : World} {l : List ClassD} {v : Value} (h : ClassesAt ok W l v) (hok : ∀ k, ok k → k < W.heap.size → ok' k) (hw : ∀ k, ok k → k < W.heap.size → W'.heap[k]? = W.heap[k]?) : ClassesAt ok' W' l v := by
  obtain ⟨ao, c, h1, h2, h3, tv, kv, h4, h5⟩ := h
  refine ⟨ao, c, h1, h2, h3, tv, kv, fun j m hm => (h4 j m hm).keep hok hw, fun hne => ?_⟩
  obtain ⟨g, o, e, hg, hc⟩ := h5 hne
  have hgl : g < W.heap.size := by
    cases l with
    | nil => exact absurd rfl hne
    | cons x t => exact cell_lt (hc 0 x 0 _ rfl rfl)
  exact ⟨g, o, e, hok g hg hgl, fun j m i u hm hu => (World.cell?_of_block (a := ⟨g, o + j * 5 + i, none⟩) (hw g hg hgl)).trans (hc j m i u hm hu)⟩
def ClassesOw (ok : Nat → Prop) (n0 : Nat) (W : World) (v : Value) (l : List ClassD) : Prop := ∃ ps : List (ClassD × Value × Value), ps.map Prod.fst = l ∧ W.ownsRow n0 50 5 v l.length (ps.flatMap fun p : ClassD × Value × Value => ccells p.1 p.2.1 p.2.2) ∧ ∀ p ∈ ps, ClassIn (fun k => ok k ∧ some k ≠ v.ownBlock) W p.1 p.2.1 p.2.2
theorem ClassesOw.nil (ok : Nat → Prop) (n0 : Nat) (W : World) : ClassesOw ok n0 W (.slice none 0 0) [] := ⟨[], rfl, World.ownsRow_nil _ _ _ _, fun p h => by simp at h⟩
theorem ClassesOw.shut {ok : Nat → Prop} {n0 : Nat} {W : World} {v : Value} {l : List ClassD} (h : ClassesOw ok n0 W v l) (hok : ∀ g, v.ownBlock = some g → ok g) : ClassesAt ok W l v := by
  obtain ⟨ps, rfl, ho, hk⟩ := h
  have hin : ∀ j m, (ps.map Prod.fst)[j]? = some m → ∃ p : ClassD × Value × Value, ps[j]? = some p ∧ p.1 = m := fun j m hm => by
    rw [List.getElem?_map, Option.map_eq_some_iff] at hm
    exact hm
  rcases ho.2 with ⟨rfl, hn⟩ | ⟨g, cap, cur, rfl, hg, hb, h1, h2, h3, h4⟩
  · have hps : ps = [] := by
      cases ps with
      | nil => rfl
      | cons p t => simp at hn
    subst hps
    exact ⟨none, 0, rfl, Nat.le_refl _, Nat.zero_le _, fun _ => .slice none 0 0, fun _ => .slice none 0 0, fun j m hm => by simp at hm, fun h => absurd rfl h⟩
  · refine ⟨some ⟨g, 0, none⟩, cap, rfl, h1, h2, fun j => match ps[j]? with | some p => p.2.1 | none => .slice none 0 0, fun j => match ps[j]? with | some p => p.2.2 | none => .slice none 0 0, fun j m hm => ?_, fun _ => ⟨g, 0, rfl, hok g rfl, fun j m i u hm hu => ?_⟩⟩
    · obtain ⟨p, hp, rfl⟩ := hin j m hm
      simp only [hp]
      exact (hk p (List.mem_of_getElem? hp)).keep (fun k h _ => h.1) (fun _ _ _ => rfl)
    · obtain ⟨p, hp, rfl⟩ := hin j m hm
      simp only [hp] at hu
      have hb' : Blk W g 50 cur := hb
      have hj : j < ps.length := (List.getElem?_eq_some_iff.1 hp).1
      have hi : i < 5 := by have := (List.getElem?_eq_some_iff.1 hu).1; simpa [ccells] using this
      rw [hb'.cell, Nat.zero_add, take_get h4 (j * 5 + i) (by rw [List.length_map]; omega), flatMap_get (fun p : ClassD × Value × Value => ccells p.1 p.2.1 p.2.2) 5 (fun p => rfl) ps j i p hp hi]
      exact hu
theorem ClassesOw.appended {ok : Nat → Prop} {n0 : Nat} {w1 w3 : World} {v v' tv kv : Value} {l : List ClassD} {m : ClassD} {tmp : Obj} {ps : List (ClassD × Value × Value)} (h1 : ps.map Prod.fst = l) (hk : ∀ p ∈ ps, ClassIn (fun k => ok k ∧ some k ≠ v.ownBlock) w1 p.1 p.2.1 p.2.2)
    (hn : ClassIn (fun k => ok k ∧ some k ≠ v.ownBlock) w1 m tv kv) (ho : w3.ownsRow n0 50 5 v' (l.length + 1) ((ps.flatMap fun p : ClassD × Value × Value => ccells p.1 p.2.1 p.2.2) ++ ccells m tv kv)) (hg : (w1.alloc tmp).grownBy w3 v.ownBlock)
    (hat : v'.ownBlock = v.ownBlock ∨ v'.ownBlock = some (w1.alloc tmp).heap.size) : ClassesOw ok n0 w3 v' (l ++ [m]) := by
  have hb : ∀ k, k < w1.heap.size → some k ≠ v.ownBlock → w3.heap[k]? = w1.heap[k]? := fun k hl hne => (hg.block k (by simp; omega) hne).trans (Below.heap_alloc w1 tmp k hl)
  have hok : ∀ k, (ok k ∧ some k ≠ v.ownBlock) → k < w1.heap.size → (ok k ∧ some k ≠ v'.ownBlock) := fun k h hl => ⟨h.1, by
    rcases hat with e | e
    · rw [e]; exact h.2
    · rw [e]; simp; omega⟩
  refine ⟨ps ++ [(m, tv, kv)], by rw [List.map_append, h1]; rfl, by simpa using ho, fun p hp => ?_⟩
  rcases List.mem_append.1 hp with hp | hp
  · exact (hk p hp).keep hok (fun k hk hl => hb k hl hk.2)
  · simp only [List.mem_singleton] at hp
    subst hp
    exact hn.keep hok (fun k hk hl => hb k hl hk.2)
theorem ClassesOw.keep {ok ok' : Nat → Prop} {n0 : Nat} {W W' : World} {v : Value} {l : List ClassD} (h : ClassesOw ok n0 W v l) (hok : ∀ k, ok k → k < W.heap.size → ok' k) (hw : ∀ k, ok k → k < W.heap.size → W'.heap[k]? = W.heap[k]?) (ho : ∀ g, v.ownBlock = some g → W'.heap[g]? = W.heap[g]?) : ClassesOw ok' n0 W' v l := by
  obtain ⟨ps, h1, h2, h3⟩ := h
  refine ⟨ps, h1, ⟨h2.1, ?_⟩, fun p hp => (h3 p hp).keep (fun k hk hl => ⟨hok k hk.1 hl, hk.2⟩) (fun k hk hl => hw k hk.1 hl)⟩
  rcases h2.2 with h | ⟨g, cap, cur, e, hg, hb, r⟩
  · exact .inl h
  · exact .inr ⟨g, cap, cur, e, hg, (ho g (by rw [e]; rfl)).trans hb, r⟩
theorem class_info : (Tryz.prog.info? 50).map (fun i => (i.zero, i.size, i.bytes)) = some (some (.agg #[.string ⟨#[]⟩, .string ⟨#[]⟩, .slice none 0 0, .slice none 0 0, .int .i64 0]), 5, 88) := by kernel_rfl
end Go.Proofs.YtcaigcmbgihhkaaGreatDoor
namespace Go.Proofs.YtcaigcmbgihhkaaGreatDoor
open Go Go.RowKit
set_option linter.unusedVariables false
set_option linter.unusedSimpArgs false
theorem tot_pure {α : Type} (a : α) (s : PSt) : PM.pure a s ≠ none := by simp [PM.pure]
theorem tot_param (en : Int) (s : PSt) : paramP en s ≠ none := tot_bind (tot_whole en s) (fun d s1 _ => tot_bind (tot_name en s1) (fun x s2 _ => tot_pure _ _))
theorem tot_takes (en : Int) : ∀ k acc s, s.ws.length < k → takesP en k acc s ≠ none
  | 0, acc, s, h => absurd h (by omega)
  | k + 1, acc, s, h => by
    rw [takesP]
    dsimp only
    split
    · simp
    · refine tot_bind ?_ (fun _ s1 e1 => tot_bind (tot_param en s1) (fun x s2 e2 => tot_takes en k _ s2 ?_))
      · split
        · exact tot_must en _ _
        · exact tot_pure _ _
      · have h1 : s1.ws.length ≤ s.ws.length := by
          split at e1
          · exact (mn_must en _).len e1
          · exact (Mn.pure ()).len e1
        have := ln_param en _ _ _ e2
        omega
theorem tot_method (en : Int) (k : Nat) (s : PSt) (h : 16 * s.ws.length + 1 < k) : methodP en k s ≠ none := by
  unfold methodP
  refine tot_bind ?_ (fun g s1 e1 => tot_bind (tot_name en s1) (fun x s2 e2 => tot_bind (tot_must en _ s2) (fun _ s3 e3 => tot_bind (tot_takes en k _ s3 ?_) (fun t s4 e4 => tot_bind (run_tot en k .block s4 trivial ?_) (fun b s5 _ => tot_pure _ _)))))
  · split
    · simp
    · exact tot_whole en s
  all_goals
    have h1 : s1.ws.length ≤ s.ws.length := (mn_ite (c := fun s => aheadP s 0 [117, 110, 105, 116] = true) (mn_okn (fun _ => [86])) (mn_whole en)).len e1
    have h2 := (mn_name en).len e2
    have h3 := (mn_must en _).len e3
  · omega
  · have h4 := (mn_takes en k []).len e4
    simp only [cN]
    omega
theorem tot_members (en : Int) (k : Nat) : ∀ m fs ms s, s.ws.length < m → 16 * s.ws.length + 1 < k → membersP en k m fs ms s ≠ none
  | 0, fs, ms, s, h, _ => absurd h (by omega)
  | m + 1, fs, ms, s, h, hk => by
    rw [membersP]
    dsimp only
    split
    · simp
    · split
      · rename_i ha
        have h0 := ahead_lt ha
        refine tot_bind (tot_param en _) (fun x s1 e1 => tot_bind (tot_must en _ s1) (fun _ s2 e2 => tot_members en k m _ _ s2 ?_ ?_))
        all_goals
          have := (mn_param en).len e1
          have := (mn_must en _).len e2
          omega
      · refine tot_bind (tot_must en _ s) (fun _ s1 e1 => tot_bind (tot_method en k s1 ?_) (fun x s2 e2 => tot_members en k m _ _ s2 ?_ ?_))
        · have := (mn_must en _).len e1
          omega
        all_goals
          have := (mn_must en _).len e1
          have := ln_method en k _ _ _ e2
          omega
theorem mn_members (en : Int) (k : Nat) : ∀ m fs ms, Mn (membersP en k m fs ms)
  | 0, fs, ms => fun s a s' h => by simp [membersP] at h
  | m + 1, fs, ms => by
    have hmm : Mn (methodP en k) := by
      unfold methodP
      refine Mn.bind (mn_ite (mn_okn _) (mn_whole en)) (fun g => Mn.bind (mn_name en) (fun x => Mn.bind (mn_must en _) (fun _ => Mn.bind (mn_takes en k []) (fun t => Mn.bind (mn_run en k _) (fun b => Mn.pure _)))))
    refine mn_ite (mn_okn _) (mn_ite (mn_next (Mn.bind (mn_param en) (fun x => Mn.bind (mn_must en _) (fun _ => mn_members en k m _ _)))) (Mn.bind (mn_must en _) (fun _ => Mn.bind hmm (fun x => mn_members en k m _ _))))
theorem mn_super (en : Int) : Mn (fun s => if aheadP s 0 [101, 120, 116, 101, 110, 100, 115] = true then PM.bind (nameP en) (fun y => PM.pure y.1) (nextP s) else some (.ok (objectL, s))) :=
  mn_ite (mn_next (Mn.bind (mn_name en) (fun _ => Mn.pure _))) (mn_ok _)
theorem ln_class (en : Int) (k : Nat) : Ln (classP en k) := by
  unfold classP
  exact Ln.bindL (ln_must en _ _) (fun _ => Mn.bind (mn_name en) (fun x => Mn.bind (mn_super en) (fun u => Mn.bind (mn_must en _) (fun _ => Mn.bind (mn_members en k k [] []) (fun m => Mn.pure _)))))
theorem tot_class (en : Int) (k : Nat) (s : PSt) (h : 16 * s.ws.length + 1 < k) : classP en k s ≠ none := by
  unfold classP
  refine tot_bind (tot_must en _ s) (fun _ s1 e1 => tot_bind (tot_name en s1) (fun x s2 e2 => tot_bind ?_ (fun u s3 e3 => tot_bind (tot_must en _ s3) (fun _ s4 e4 => tot_bind (tot_members en k k _ _ s4 ?_ ?_) (fun m s5 _ => tot_pure _ _)))))
  · split
    · exact tot_bind (tot_name en _) (fun _ _ _ => tot_pure _ _)
    · simp
  all_goals
    have := (mn_must en _).len e1
    have := (mn_name en).len e2
    have := (mn_super en).len e3
    have := (mn_must en _).len e4
    omega
theorem tot_classes (en : Int) (k : Nat) : ∀ m acc s, s.ws.length < m → 16 * s.ws.length + 1 < k → classesP en k m acc s ≠ none
  | 0, acc, s, h, _ => absurd h (by omega)
  | m + 1, acc, s, h, hk => by
    rw [classesP]
    dsimp only
    split
    · simp
    · refine tot_bind (tot_class en k s hk) (fun c s1 e1 => tot_classes en k m _ s1 ?_ ?_)
      all_goals
        have := ln_class en k _ _ _ e1
        omega
def stepsL (ws : List WordD) : Nat := 16 * ws.length + 2
def parseL (src : Bs) : Except Fault (List ClassD) :=
  if (lexL src).2.2 ≠ 0 then .error ((lexL src).2.1, (lexL src).2.2)
  else match classesP (src.length : Int) (stepsL (lexL src).1) ((lexL src).1.length + 1) [] ⟨(lexL src).1, 0⟩ with
  | some (.ok (l, _)) => .ok l
  | some (.error f) => .error f
  | none => .ok []
end Go.Proofs.YtcaigcmbgihhkaaGreatDoor
namespace Go.Proofs.YtcaigcmbgihhkaaGreatDoor
open Go Go.RowKit Go.Shelf
set_option linter.unusedVariables false
set_option linter.unusedSimpArgs false
attribute [local go_sem] Oper.semAt_some
set_option maxRecDepth 100000 in
set_option maxHeartbeats 2000000 in
theorem parse_bad (w : World) (src : ByteArray) (hs : src.size ≤ 140737488351232) (hS : SpaceAt w) (hw : (lexL (bl src)).2.2 ≠ 0) :
    Calls Tryz.prog 16 #[.string src] w fun e w' => e = .returned (.tuple #[.slice none 0 0, .int .i64 (lexL (bl src)).2.1, .int .i64 (lexL (bl src)).2.2]) ∧ Below w.heap.size w w' := by
  have hmf : ∀ (fn : Fn) (first cap : Array Value) (w : World), (Instr.makeFunc fn first cap).run Tryz.prog w = .ok (.func fn first cap) w := fun _ _ _ _ => rfl
  have HS := Lib.hid hS
  have hne : ((lexL (bl src)).2.2 != 0) = true := by simpa using hw
  have hne2 : ((lexL (bl src)).2.2 == 0) = false := beq_eq_false_iff_ne.2 hw
  clear hS
  go_enter_defers Tryz.func16, Tryz.ntmps16
  go_wp2_with fail
  have hb0 := (((Below.refl w.heap.size w).alloc (Nat.le_refl _) (.cells #[.slice none 0 0] 37)).alloc (by simp) (.cells #[.int .i64 0] 3)).alloc (by simp; omega) (.cells #[.int .i64 0] 23)
  have q0 := ((Blk.new w 37 #[.slice none 0 0]).alloc (.cells #[.int .i64 0] 3)).alloc (.cells #[.int .i64 0] 23)
  have q1 := (Blk.new (w.alloc (.cells #[.slice none 0 0] 37)) 3 #[.int .i64 0]).alloc (.cells #[.int .i64 0] 23)
  have q2 := Blk.new ((w.alloc (.cells #[.slice none 0 0] 37)).alloc (.cells #[.int .i64 0] 3)) 23 #[.int .i64 0]
  simp only [World.size_alloc] at q1 q2
  refine (words_any _ src hs (HS.out.mono (by first | exact hb0 | simpa using hb0))).mono ?_
  rintro e w1 ⟨v, rfl, ho, hb⟩
  have hb1 := hb0.trans (hb.mono (by simp; omega))
  have p0 := q0.below hb (by simp; omega)
  have p1 := q1.below hb (by simp)
  have p2 := q2.below hb (by simp)
  have c0 := p0.cell 0
  have c1 := p1.cell 0
  have c2 := p2.cell 0
  have f0 := p0.frozen 0
  have f1 := p1.frozen 0
  have f2 := p2.frozen 0
  have P0 := Lib.hid p0
  have P1 := Lib.hid p1
  have P2 := Lib.hid p2
  have B1 := Lib.hid hb1
  clear ho hb hb0 hb1 q0 q1 q2 p0 p1 p2
  go_wp2_with fail
  obtain ⟨at_, hat⟩ : ∃ a, a = (lexL (bl src)).2.1 := ⟨_, rfl⟩
  obtain ⟨why, hwhy⟩ : ∃ a, a = (lexL (bl src)).2.2 := ⟨_, rfl⟩
  rw [← hat, ← hwhy]
  have q0 := (P0.out.other (B' := w.heap.size + 1) (by omega) 0 (.int .i64 at_)).other (B' := w.heap.size + 1 + 1) (by omega) 0 (.int .i64 why)
  have q1 : Blk _ _ _ #[.int .i64 at_] := (by simpa using (P1.out.set 0 (.int .i64 at_)).other (B' := w.heap.size + 1 + 1) (by omega) 0 (.int .i64 why))
  have q2 : Blk _ _ _ #[.int .i64 why] := (by simpa using (P2.out.other (B' := w.heap.size + 1) (by omega) 0 (.int .i64 at_)).set 0 (.int .i64 why))
  have bw : Below w.heap.size w ((w1.setCell ⟨w.heap.size + 1, 0, none⟩ (.int .i64 at_)).setCell ⟨w.heap.size + 1 + 1, 0, none⟩ (.int .i64 why)) := (B1.out.setCell (p := ⟨w.heap.size + 1, 0, none⟩) (by simp) _).setCell (p := ⟨w.heap.size + 1 + 1, 0, none⟩) (by simp; omega) _
  generalize hW : (w1.setCell ⟨w.heap.size + 1, 0, none⟩ (.int .i64 at_)).setCell ⟨w.heap.size + 1 + 1, 0, none⟩ (.int .i64 why) = W2 at q0 q1 q2 bw ⊢
  clear hW c0 c1 c2 f0 f1 f2
  have c0 := q0.cell 0
  have c1 := q1.cell 0
  have c2 := q2.cell 0
  have f0 := q0.frozen 0
  have f1 := q1.frozen 0
  have f2 := q2.frozen 0
  have Q0 := Lib.hid q0
  have Q1 := Lib.hid q1
  have Q2 := Lib.hid q2
  have BW := Lib.hid bw
  have HAT := Lib.hid hat
  have HWHY := Lib.hid hwhy
  clear q0 q1 q2 bw hat hwhy hne hne2 hw
  go_region
  all_goals
    go_wp2_with fail
    have r0 := ((Q0.out.set 0 (.slice none 0 0)).other (B' := w.heap.size + 1) (by omega) 0 (.int .i64 at_)).other (B' := w.heap.size + 1 + 1) (by omega) 0 (.int .i64 why)
    have r1 := ((Q1.out.other (B' := w.heap.size) (by omega) 0 (.slice none 0 0)).set 0 (.int .i64 at_)).other (B' := w.heap.size + 1 + 1) (by omega) 0 (.int .i64 why)
    have r2 := ((Q2.out.other (B' := w.heap.size) (by omega) 0 (.slice none 0 0)).other (B' := w.heap.size + 1) (by omega) 0 (.int .i64 at_)).set 0 (.int .i64 why)
    have d0 := r0.cell 0
    have d1 := r1.cell 0
    have d2 := r2.cell 0
    simp only [List.setIfInBounds_toArray, List.set_cons_zero] at d0 d1 d2
    have bw := (((BW.out.setCell (p := ⟨w.heap.size, 0, none⟩) (Nat.le_refl _) (.slice none 0 0)).setCell (p := ⟨w.heap.size + 1, 0, none⟩) (by simp) (.int .i64 at_)).setCell (p := ⟨w.heap.size + 1 + 1, 0, none⟩) (by simp; omega) (.int .i64 why))
    simp [bodyPostD, Leaves, results, Tryz.results16, go_sem, d0, d1, d2]
    exact ⟨⟨HAT.out, HWHY.out⟩, ⟨bw.os, bw.tape, bw.output, bw.size, bw.block⟩⟩
end Go.Proofs.YtcaigcmbgihhkaaGreatDoor
namespace Go.Proofs.YtcaigcmbgihhkaaGreatDoor
open Go Go.RowKit Go.Shelf
set_option linter.unusedVariables false
set_option linter.unusedSimpArgs false
attribute [local go_sem] Oper.semAt_some
def ParseQ (n : Nat) (r : Except Fault (List ClassD × PSt)) (e : Ending) (w' : World) : Prop := match r with
  | .error f => e = .returned (.tuple #[.slice none 0 0, .int .i64 f.1, .int .i64 f.2])
  | .ok (l, _) => ∃ v, e = .returned (.tuple #[v, .int .i64 0, .int .i64 0]) ∧ ClassesAt (fun k => n ≤ k) w' l v
theorem words_at {W : World} {base : Nat} {ao : Option Addr} {c : Nat} {l : List WordD} (h : W.ownsRow base 36 4 (.slice ao l.length c) l.length (wrow l)) : WordsAt W.heap.size W (.slice ao l.length c) l := by
  rcases h.2 with ⟨e, hn⟩ | ⟨g, cap, cur, e, hg, hb, h1, h2, h3, h4⟩
  · have hl : l = [] := List.eq_nil_of_length_eq_zero hn
    subst hl
    simp only [Value.slice.injEq] at e
    obtain ⟨rfl, -, rfl⟩ := e
    exact ⟨none, 0, rfl, Nat.le_refl _, Nat.zero_le _, fun h => absurd rfl h⟩
  · simp only [Value.slice.injEq] at e
    obtain ⟨rfl, -, rfl⟩ := e
    refine ⟨_, _, rfl, h1, h2, fun _ => ⟨g, 0, rfl, (Blk.lt (show Blk W g 36 cur from hb)), fun j x i u hx hu => ?_⟩⟩
    have hj := (List.getElem?_eq_some_iff.1 hx).1
    have hi : i < 4 := (List.getElem?_eq_some_iff.1 hu).1
    rw [(show Blk W g 36 cur from hb).cell, Nat.zero_add, take_get h4 _ (by omega)]
    rw [show wrow l = l.flatMap (fun x => wcells x) from rfl, flatMap_get (fun x : WordD => wcells x) 4 (fun x => rfl) l j i x hx hi]
    exact hu
theorem invoke_catch (n : Nat) (w : World) : (invoke (.fn (.func 34) #[.pointer (some ⟨n, 0, none⟩), .pointer (some ⟨n + 1, 0, none⟩), .pointer (some ⟨n + 1 + 1, 0, none⟩)]) #[]).run Tryz.prog w = .ok (.enter 34 #[.pointer (some ⟨n, 0, none⟩), .pointer (some ⟨n + 1, 0, none⟩), .pointer (some ⟨n + 1 + 1, 0, none⟩)]) w := enter_of Tryz.func34 (by kernel_rfl) (by kernel_rfl) _ w
theorem results_three (tmps : Array Value) (n : Nat) (v0 v1 v2 : Value) (w : World) (h2 : tmps.getD 2 undef = .pointer (some ⟨n, 0, none⟩)) (h3 : tmps.getD 3 undef = .pointer (some ⟨n + 1, 0, none⟩)) (h4 : tmps.getD 4 undef = .pointer (some ⟨n + 1 + 1, 0, none⟩))
    (b0 : Blk w n 37 #[v0]) (b1 : Blk w (n + 1) 3 #[v1]) (b2 : Blk w (n + 1 + 1) 23 #[v2]) : (results Tryz.f16 tmps).run Tryz.prog w = .ok (.tuple #[v0, v1, v2]) w := by
  have c0 := b0.cell 0
  have c1 := b1.cell 0
  have c2 := b2.cell 0
  simp only [List.getElem?_toArray, List.getElem?_cons_zero] at c0 c1 c2
  have hr : Tryz.f16.results = #[.cell 2 37, .cell 3 3, .cell 4 23] := rfl
  simp only [Array.getD_eq_getD_getElem?] at h2 h3 h4
  simp [results, hr, go_sem, h2, h3, h4, c0, c1, c2]
theorem leaves_idle (tmps : Array Value) (n : Nat) (v0 v1 v2 : Value) (w : World) (h2 : tmps.getD 2 undef = .pointer (some ⟨n, 0, none⟩)) (h3 : tmps.getD 3 undef = .pointer (some ⟨n + 1, 0, none⟩)) (h4 : tmps.getD 4 undef = .pointer (some ⟨n + 1 + 1, 0, none⟩))
    (b0 : Blk w n 37 #[v0]) (b1 : Blk w (n + 1) 3 #[v1]) (b2 : Blk w (n + 1 + 1) 23 #[v2]) (R : Ending → World → Prop) (hR : ∀ o, R (.returned (.tuple #[v0, v1, v2])) (w.alloc o)) :
    Leaves Tryz.prog Tryz.f16 tmps R [{ target := .fn (.func 34) #[.pointer (some ⟨n, 0, none⟩), .pointer (some ⟨n + 1, 0, none⟩), .pointer (some ⟨n + 1 + 1, 0, none⟩)], args := #[] }] .returning w := by
  refine ⟨by simp, _, _, _, _, rfl, invoke_catch n w, (catch_idle n w).mono ?_⟩
  rintro e u' w' ⟨rfl, rfl, o, rfl⟩
  exact ⟨_, results_three tmps n v0 v1 v2 _ h2 h3 h4 (b0.alloc o) (b1.alloc o) (b2.alloc o), hR o⟩
theorem leaves_fault (tmps : Array Value) (n : Nat) (v0 v1 v2 : Value) (f : Fault) (w : World) (h2 : tmps.getD 2 undef = .pointer (some ⟨n, 0, none⟩)) (h3 : tmps.getD 3 undef = .pointer (some ⟨n + 1, 0, none⟩)) (h4 : tmps.getD 4 undef = .pointer (some ⟨n + 1 + 1, 0, none⟩))
    (b0 : Blk w n 37 #[v0]) (b1 : Blk w (n + 1) 3 #[v1]) (b2 : Blk w (n + 1 + 1) 23 #[v2]) (R : Ending → World → Prop) (hR : ∀ w', Touch (fun k => k = n ∨ k = n + 1 ∨ k = n + 1 + 1) w w' → R (.returned (.tuple #[.slice none 0 0, .int .i64 f.1, .int .i64 f.2])) w') :
    Leaves Tryz.prog Tryz.f16 tmps R [{ target := .fn (.func 34) #[.pointer (some ⟨n, 0, none⟩), .pointer (some ⟨n + 1, 0, none⟩), .pointer (some ⟨n + 1 + 1, 0, none⟩)], args := #[] }] (.panicking (faultC f)) w := by
  refine ⟨by simp, _, _, _, _, rfl, invoke_catch n w, (catch_panicking n v0 v1 v2 f [] w b0 b1 b2).mono ?_⟩
  rintro e u' w' ⟨rfl, rfl, q0, q1, q2, ht⟩
  exact ⟨_, results_three tmps n _ _ _ _ h2 h3 h4 q0 q1 q2, hR w' ht⟩
theorem PAt.grown {W W' : World} {pB : Nat} {en : Int} {s : PSt} {row : Option Nat} (h : PAt W pB en s) (hg : W.grownBy W' row) (hr : ∀ q, row = some q → pB < q) : PAt W' pB en s :=
  h.block (fun k hk => hg.block k (by have := h.lt; omega) (fun e => by have := hr k e.symm; omega))
theorem PAt.setOne {W : World} {pB q : Nat} {en : Int} {s : PSt} {T : TypeId} {v : Value} (h : PAt W pB en s) (hb : Blk W q T #[v]) (hq : q ≠ pB) (u : Value) : PAt (W.setCell ⟨q, 0, none⟩ u) pB en s := by
  obtain ⟨⟨v', h1, ao, c, e, h3, h4, h5⟩, h2⟩ := h
  refine ⟨⟨v', h1.other (Ne.symm hq) 0 u, ao, c, e, h3, h4, fun hne => ?_⟩, h2⟩
  obtain ⟨g, o, e, hg, hc⟩ := h5 hne
  refine ⟨g, o, e, hg, fun j x i u' hx hu => ?_⟩
  have hgq : g ≠ q := by
    rintro rfl
    cases hws : s.ws with
    | nil => exact hne hws
    | cons y r =>
      have := hc 0 y 3 _ (by rw [hws]; rfl) rfl
      rw [hb.cell] at this
      simp at this
  rw [World.cell?_setCell_other _ ⟨q, 0, none⟩ ⟨g, o + j * 4 + i, none⟩ _ (by simp <;> omega)]
  exact hc j x i u' hx hu
set_option maxRecDepth 100000 in
set_option maxHeartbeats 4000000 in
theorem parse_good (w : World) (src : ByteArray) (hs : src.size ≤ 140737488351232) (hS : SpaceAt w) (hw : (lexL (bl src)).2.2 = 0) (hlen : (lexL (bl src)).1.length ≤ 16384) (htx : ∀ x ∈ (lexL (bl src)).1, x.text.length ≤ 20000) (r : Except Fault (List ClassD × PSt))
    (hr : classesP (src.size : Int) (stepsL (lexL (bl src)).1) ((lexL (bl src)).1.length + 1) [] ⟨(lexL (bl src)).1, 0⟩ = some r) :
    Calls Tryz.prog 16 #[.string src] w fun e w' => Below w.heap.size w w' ∧ ParseQ w.heap.size r e w' := by
  have hmf : ∀ (fn : Fn) (first cap : Array Value) (w : World), (Instr.makeFunc fn first cap).run Tryz.prog w = .ok (.func fn first cap) w := fun _ _ _ _ => rfl
  have HS := Lib.hid hS
  have hne : ((lexL (bl src)).2.2 != 0) = false := by rw [hw]; rfl
  have hne2 : ((lexL (bl src)).2.2 == 0) = true := by rw [hw]; rfl
  clear hS
  go_enter_defers Tryz.func16, Tryz.ntmps16
  go_wp2_with fail
  have hb0 := (((Below.refl w.heap.size w).alloc (Nat.le_refl _) (.cells #[.slice none 0 0] 37)).alloc (by simp) (.cells #[.int .i64 0] 3)).alloc (by simp; omega) (.cells #[.int .i64 0] 23)
  have q0 := ((Blk.new w 37 #[.slice none 0 0]).alloc (.cells #[.int .i64 0] 3)).alloc (.cells #[.int .i64 0] 23)
  have q1 := (Blk.new (w.alloc (.cells #[.slice none 0 0] 37)) 3 #[.int .i64 0]).alloc (.cells #[.int .i64 0] 23)
  have q2 := Blk.new ((w.alloc (.cells #[.slice none 0 0] 37)).alloc (.cells #[.int .i64 0] 3)) 23 #[.int .i64 0]
  simp only [World.size_alloc] at q1 q2
  refine (words_any _ src hs (HS.out.mono (by first | exact hb0 | simpa using hb0))).mono ?_
  rintro e w1 ⟨v, rfl, ho, hb⟩
  obtain ⟨ao, c, rfl⟩ := own_form ho
  have hb1 := hb0.trans (hb.mono (by simp; omega))
  have hsz1 := hb.size
  simp only [World.size_alloc] at ho hsz1
  have p0 := q0.below hb (by simp; omega)
  have p1 := q1.below hb (by simp)
  have p2 := q2.below hb (by simp)
  have c0 := p0.cell 0
  have c1 := p1.cell 0
  have c2 := p2.cell 0
  have f0 := p0.frozen 0
  have f1 := p1.frozen 0
  have f2 := p2.frozen 0
  have hn1 : (wrow (lexL (bl src)).1).length = (lexL (bl src)).1.length * 4 := by rw [wrow, flatMap_len (fun x => wcells x) 4 (fun x => rfl)]
  have hwv := fun (a b : Value) => words_at (own_set (own_set ho (B := w.heap.size + 1) (fun e => by have := (ho.lt _ e.symm).1; omega) 0 a) (B := w.heap.size + 1 + 1) (fun e => by have := (ho.lt _ e.symm).1; omega) 0 b)
  have HWV : Hid (∀ a b : Value, WordsAt _ _ _ _) := Lib.hid hwv
  obtain ⟨at_, hat⟩ : ∃ a, a = (lexL (bl src)).2.1 := ⟨_, rfl⟩
  obtain ⟨L, hL⟩ : ∃ a, a = (lexL (bl src)).1 := ⟨_, rfl⟩
  rw [← hL] at HWV hlen htx hr hn1
  rw [← hat, hw]
  simp only [← hL]
  have hlen9 : L.length ≤ 9223372036854775807 := by omega
  have P0 := Lib.hid p0
  have P1 := Lib.hid p1
  have P2 := Lib.hid p2
  have B1 := Lib.hid hb1
  have HR := Lib.hid hr
  have HLen := Lib.hid hlen
  have HTx := Lib.hid htx
  clear ho hb hb0 hb1 q0 q1 q2 p0 p1 p2 hwv hn1 hr hlen htx hL hat hw
  go_wp2_with fail
  have PP : PAt (((w1.setCell ⟨w.heap.size + 1, 0, none⟩ (.int .i64 at_)).setCell ⟨w.heap.size + 1 + 1, 0, none⟩ (.int .i64 0)).alloc (.cells #[.slice ao L.length c, .int .i64 (src.size : Int), .int .i64 0] 88)) w1.heap.size (src.size : Int) ⟨L, 0⟩ := by
    have hz : ((w1.setCell ⟨w.heap.size + 1, 0, none⟩ (.int .i64 at_)).setCell ⟨w.heap.size + 1 + 1, 0, none⟩ (.int .i64 0)).heap.size = w1.heap.size := by simp [World.setCell]
    have hb := Blk.new ((w1.setCell ⟨w.heap.size + 1, 0, none⟩ (.int .i64 at_)).setCell ⟨w.heap.size + 1 + 1, 0, none⟩ (.int .i64 0)) 88 #[.slice ao L.length c, .int .i64 (src.size : Int), .int .i64 0]
    rw [hz] at hb
    refine ⟨⟨_, hb, ?_⟩, ?_⟩
    · have hw0 := (HWV.out (.int .i64 at_) (.int .i64 0)).below (Nat.le_refl _) ((Below.refl _ _).alloc (Nat.le_refl _) (.cells #[.slice ao L.length c, .int .i64 (src.size : Int), .int .i64 0] 88))
      rw [hz] at hw0
      exact hw0
    · exact ⟨by have := HLen.out; show L.length ≤ 1000000; omega, fun x hx => by have := HTx.out x hx; omega, Int.le_refl _, by show (0 : Int) ≤ 24; decide⟩
  have Q0 : Blk _ _ _ _ := ((P0.out.other (B' := w.heap.size + 1) (by omega) 0 (.int .i64 at_)).other (B' := w.heap.size + 1 + 1) (by omega) 0 (.int .i64 0)).alloc (.cells #[.slice ao L.length c, .int .i64 (src.size : Int), .int .i64 0] 88)
  have Q1 : Blk _ _ _ #[.int .i64 at_] := (by simpa using (P1.out.set 0 (.int .i64 at_)).other (B' := w.heap.size + 1 + 1) (by omega) 0 (.int .i64 0) : Blk ((w1.setCell ⟨w.heap.size + 1, 0, none⟩ (.int .i64 at_)).setCell ⟨w.heap.size + 1 + 1, 0, none⟩ (.int .i64 0)) (w.heap.size + 1) 3 #[.int .i64 at_]).alloc (.cells #[.slice ao L.length c, .int .i64 (src.size : Int), .int .i64 0] 88)
  have Q2 : Blk _ _ _ #[.int .i64 0] := (by simpa using (P2.out.other (B' := w.heap.size + 1) (by omega) 0 (.int .i64 at_)).set 0 (.int .i64 0) : Blk ((w1.setCell ⟨w.heap.size + 1, 0, none⟩ (.int .i64 at_)).setCell ⟨w.heap.size + 1 + 1, 0, none⟩ (.int .i64 0)) (w.heap.size + 1 + 1) 23 #[.int .i64 0]).alloc (.cells #[.slice ao L.length c, .int .i64 (src.size : Int), .int .i64 0] 88)
  have BW := ((B1.out.setCell (p := ⟨w.heap.size + 1, 0, none⟩) (by simp) (.int .i64 at_)).setCell (p := ⟨w.heap.size + 1 + 1, 0, none⟩) (by simp; omega) (.int .i64 0)).alloc (by simp [World.setCell]; omega) (.cells #[.slice ao L.length c, .int .i64 (src.size : Int), .int .i64 0] 88)
  obtain ⟨W0, hW0⟩ : ∃ W0, W0 = (((w1.setCell ⟨w.heap.size + 1, 0, none⟩ (.int .i64 at_)).setCell ⟨w.heap.size + 1 + 1, 0, none⟩ (.int .i64 0)).alloc (.cells #[.slice ao L.length c, .int .i64 (src.size : Int), .int .i64 0] 88)) := ⟨_, rfl⟩
  have hz0 : W0.heap.size = w1.heap.size + 1 := by rw [hW0]; simp [World.setCell]
  rw [← hW0] at PP Q0 Q1 Q2 BW
  simp only [← hW0]
  have hsz1' := hz0
  have CO := ClassesOw.nil (fun k => W0.heap.size ≤ k) W0.heap.size W0
  have hW0' := Lib.hid hW0
  have PP' := Lib.hid PP
  have Q0' := Lib.hid Q0
  have Q1' := Lib.hid Q1
  have Q2' := Lib.hid Q2
  have BW' := Lib.hid BW
  have CO' := Lib.hid CO
  clear hW0 PP Q0 Q1 Q2 BW CO c0 c1 c2 f0 f1 f2 P0 P1 P2 B1 HWV
  have hL1 := HLen.out
  go_loopg [] (L.length + 1) (fun k wr => ∃ (lv : Value) (l : List ClassD) (s' : PSt), k ≤ L.length + 1 ∧ Hid (PAt wr w1.heap.size (src.size : Int) s') ∧ Hid (Blk wr w.heap.size 37 #[lv]) ∧ Hid (Blk wr (w.heap.size + 1) 3 #[.int .i64 at_]) ∧ Hid (Blk wr (w.heap.size + 1 + 1) 23 #[.int .i64 0]) ∧ Hid (Below w.heap.size w wr) ∧ Hid (ClassesOw (fun k => W0.heap.size ≤ k) W0.heap.size wr lv l) ∧ Hid (classesP (src.size : Int) (stepsL L) k l s' = some r) ∧ W0.heap.size ≤ wr.heap.size ∧ l.length + s'.ws.length ≤ 1000000)
  case atStart => exact ⟨_, [], ⟨L, 0⟩, Nat.le_refl _, PP', Q0', Q1', Q2', BW', CO', HR, Nat.le_refl _, by simp; omega⟩
  case round =>
    clear PP' Q0' Q1' Q2' BW' CO' HR
    obtain ⟨lv, l, s', hk, PP, Q0, Q1, Q2, BW, CO, HR, hzr, hll⟩ := hrel
    obtain ⟨wo, wn, wc, hwn, hw1, hw2, hwb, hwc⟩ := PP.out.cells
    have p0 := hwb.cell 0
    have b0 := Q0.out.cell 0
    have b1 := Q1.out.cell 0
    have b2 := Q2.out.cell 0
    have g0 := Q0.out.frozen 0
    have g1 := Q1.out.frozen 0
    have g2 := Q2.out.frozen 0
    have lt0 := Q0.out.lt
    have lt1 := Q1.out.lt
    have lt2 := Q2.out.lt
    cases gk with
    | zero => exact absurd HR.out (by simp [classesP])
    | succ k =>
    by_cases hws : s'.ws = []
    · have hr := HR.out
      rw [classesP] at hr
      dsimp only at hr
      rw [if_pos hws] at hr
      simp only [Option.some.injEq] at hr
      subst hr
      have hwn0 : wn = 0 := by rw [hwn, hws]; rfl
      subst hwn0
      obtain ⟨ps, hps, hmo, hmk⟩ := CO.out
      obtain ⟨la, lc, rfl⟩ := own_form hmo
      have HMO := Lib.hid hmo
      clear hps hmo hmk hwc HR hwn hws hwb
      go_wp2_with fail
      have q0 := ((Q0.out.set 0 (.slice la l.length lc)).other (B' := w.heap.size + 1) (by omega) 0 (.int .i64 0)).other (B' := w.heap.size + 1 + 1) (by omega) 0 (.int .i64 0)
      have q1 := ((Q1.out.other (B' := w.heap.size) (by omega) 0 (.slice la l.length lc)).set 0 (.int .i64 0)).other (B' := w.heap.size + 1 + 1) (by omega) 0 (.int .i64 0)
      have q2 := ((Q2.out.other (B' := w.heap.size) (by omega) 0 (.slice la l.length lc)).other (B' := w.heap.size + 1) (by omega) 0 (.int .i64 0)).set 0 (.int .i64 0)
      simp only [List.setIfInBounds_toArray, List.set_cons_zero] at q0 q1 q2
      have bw := ((BW.out.setCell (p := ⟨w.heap.size, 0, none⟩) (Nat.le_refl _) (.slice la l.length lc)).setCell (p := ⟨w.heap.size + 1, 0, none⟩) (by simp) (.int .i64 0)).setCell (p := ⟨w.heap.size + 1 + 1, 0, none⟩) (by simp; omega) (.int .i64 0)
      refine leaves_idle _ w.heap.size _ _ _ _ rfl rfl rfl q0 q1 q2 _ (fun o => ⟨bw.alloc bw.size o, _, rfl, ?_⟩)
      refine (CO.out.shut (fun g e => (HMO.out.lt g e).1)).keep (fun k hk _ => by omega) (fun k hk hl => ?_)
      refine (Below.heap_alloc _ o k (by simpa [World.setCell] using hl)).trans ?_
      iterate 3 refine (Below.heap_setCell _ ⟨_, _, none⟩ _ k (by dsimp only; omega)).trans ?_
      rfl
    · obtain ⟨ps, hps, hmo, hmk⟩ := CO.out
      obtain ⟨la, lc, rfl⟩ := own_form hmo
      have HPS := Lib.hid hps
      have HMO := Lib.hid hmo
      have HMK := Lib.hid hmk
      have hr := HR.out
      have e1 : classesP (src.size : Int) (stepsL L) (k + 1) l s' = PM.bind (classP (src.size : Int) (stepsL L)) (fun c => classesP (src.size : Int) (stepsL L) k (l ++ [c])) s' := by rw [classesP]; dsimp only; rw [if_neg hws]
      rw [e1] at hr
      have HR2 := Lib.hid hr
      have hwp : 0 < wn := by rw [hwn]; exact List.length_pos_iff.2 hws
      have hwp' : (0 : Int) < (wn : Int) := by omega
      have hwd : decide ((0 : Int) < (wn : Int)) = true := decide_eq_true hwp'
      have hwm : wn ≤ 9223372036854775807 := by unfold maxLen at hw2; omega
      clear hps hmo hmk hwc HR hwn hws hwb hr e1
      go_wp2_with fail
      have hownc : ∀ q, some q = (Value.slice la l.length lc).ownBlock → W0.heap.size ≤ q ∧ q < wr.heap.size := fun q e => HMO.out.lt q e.symm
      have hlc : l.length ≤ 1000000 := by omega
      obtain ⟨i0, hi0, hz0', hz1, hz2⟩ := info_of class_info
      have hne2 : ∀ q, q < W0.heap.size → some q ≠ (Value.slice la l.length lc).ownBlock := fun q hq e => by have := (hownc q e).1; omega
      have hn0 : w.heap.size < W0.heap.size := by omega
      have pb : ∀ w' w2, Tch w1.heap.size wr.drew w' → Touch (fun k => k = w.heap.size ∨ k = w.heap.size + 1 ∨ k = w.heap.size + 1 + 1) w' w2 → Below w.heap.size w w2 := fun w' w2 ht ht2 =>
        (BW.out.trans (Touch.below (Tch.trans ((Touch.refl (fun k => k = w1.heap.size) wr).drew) ht) (n := w.heap.size) (by omega) (fun k hk => by omega))).trans (Touch.below ht2 (n := w.heap.size) (by have : wr.heap.size ≤ w'.heap.size := ht.size; omega) (fun k hk => by omega))
      have PB := Lib.hid pb
      clear pb
      (first | go_region_law (first
        | (go_simp; go_at_call 35; go_loud (refine bind_call HR2.out (fun r1 h1 => class_all (stepsL L) wr.drew w1.heap.size (src.size : Int) s' r1 PP.out.drew h1) (fun fl w' e ht => by subst e; exact leaves_fault _ w.heap.size _ _ _ fl w' rfl rfl rfl (Q0.out.drew.tch (W' := w') ht (by omega)) (Q1.out.drew.tch (W' := w') ht (by omega)) (Q2.out.drew.tch (W' := w') ht (by omega)) _ (fun w2 ht2 => ⟨PB.out w' w2 ht ht2, rfl⟩)) ?_; rintro y s3 w3e w3 hr3 h1 ⟨fa, fc, ma, mc, rfl, hpa, hma⟩ hp3 ht3; have T3 : Hid (Tch w1.heap.size wr w3) := Lib.hid (Tch.trans ((Touch.refl (fun k => k = w1.heap.size) wr).drew) ht3); have O3 := Lib.hid (own_touch (W := wr.drew) HMO.out.drew ht3 (fun k hk => by omega)); have b3' := Q0.out.drew.tch (W' := w3) ht3 (by omega); have q3 : w3.cell? ⟨w.heap.size, 0, none⟩ = some (.slice la l.length lc) := b3'.cell 0; have q3a : ∀ o, (w3.alloc o).cell? ⟨w.heap.size, 0, none⟩ = some (.slice la l.length lc) := fun o => (b3'.alloc o).cell 0; have hl3 := ln_class _ _ _ _ _ h1; have HR3 := Lib.hid hr3; have HP3 := Lib.hid hp3; have HPA := Lib.hid hpa; have HMA := Lib.hid hma; have hz3' := b3'.lt; have hsz3 := T3.out.size; have B3 := Lib.hid b3'; clear hr3 h1 hp3 ht3 b3' hpa hma))
        | (go_loud (refine step_append_lies _ rfl _ _ 37 rfl W0.heap.size 50 i0 (.agg #[.string ⟨#[]⟩, .string ⟨#[]⟩, .slice none 0 0, .slice none 0 0, .int .i64 0]) 5 88 Tryz.underlying37 hi0 hz0' hz1 hz2 rfl (by decide) (.slice la l.length lc) l.length _ (by rfl) (O3.out.alloc _) ⟨w3.heap.size, 0, none⟩ 1 1 (ccells y (.slice fa y.fields.length fc) (.slice ma y.methods.length mc)) (by rfl) (by rfl) (news_at _ _ (ccells y (.slice fa y.fields.length fc) (.slice ma y.methods.length mc))) (by simp [ccells, Value.oneCell']) (by omega) (by unfold maxLen; omega) (by omega) (by have : wr.heap.size ≤ w3.heap.size := hsz3; simp; omega) _ (by rfl) ?_; intro g0 cap wa hoa hga hata hla; have ba := (B3.out.alloc _).kept hga (hne2 _ hn0); have ca0 := ba.cell 0; have caf := ba.frozen 0; have HOA := Lib.hid hoa; have HGA := Lib.hid hga; have HATA := Lib.hid hata; have BA := Lib.hid ba; clear hoa hga hata ba))) | fail "no")
      all_goals
        have hlen3 : (l ++ [y]).length = l.length + 1 := by simp
        have hszw : wr.heap.size ≤ w3.heap.size := hsz3
        have hTA : Hid (Touch (fun q => q = w1.heap.size ∨ q = w.heap.size ∨ W0.heap.size ≤ q) wr wa) := Lib.hid (((T3.out.mono (T := fun q => q = w1.heap.size ∨ q = w.heap.size ∨ W0.heap.size ≤ q) (fun _ _ h => .inl h)).alloc _).grown HGA.out (fun q e => .inl (.inr (.inr (hownc q e.symm).1))))
        have hTB := Lib.hid (Touch.setCell (p := ⟨w.heap.size, 0, none⟩) hTA.out (.inl (.inr (.inl rfl))) (.slice (some ⟨g0, 0, none⟩) (l.length + 1) cap))
        have hwz : (wa.setCell ⟨w.heap.size, 0, none⟩ (.slice (some ⟨g0, 0, none⟩) (l.length + 1) cap)).heap.size = wa.heap.size := by simp [World.setCell]
        have RP := Lib.hid (PAt.setOne (PAt.grown (HP3.out.alloc (.cells (ccells y (.slice fa y.fields.length fc) (.slice ma y.methods.length mc)).toArray 50)) HGA.out (fun q e => by have := (hownc q e.symm).1; omega)) BA.out (by omega) (.slice (some ⟨g0, 0, none⟩) (l.length + 1) cap))
        have R0 := Lib.hid (BA.out.set 0 (.slice (some ⟨g0, 0, none⟩) (l.length + 1) cap))
        have R1 := Lib.hid ((((Q1.out.tch (W' := w3) T3.out (by omega)).alloc _).kept HGA.out (hne2 _ (by omega))).other (B' := w.heap.size) (by omega) 0 (.slice (some ⟨g0, 0, none⟩) (l.length + 1) cap))
        have R2 := Lib.hid ((((Q2.out.tch (W' := w3) T3.out (by omega)).alloc _).kept HGA.out (hne2 _ (by omega))).other (B' := w.heap.size) (by omega) 0 (.slice (some ⟨g0, 0, none⟩) (l.length + 1) cap))
        simp only [List.setIfInBounds_toArray, List.set_cons_zero] at R0
        have RB := Lib.hid (BW.out.trans (Touch.below hTB.out (n := w.heap.size) (by omega) (fun q hq => by omega)))
        have mb := ClassesOw.appended (ok := fun q => W0.heap.size ≤ q) (w1 := w3) HPS.out (fun p hp => (HMK.out p hp).keep (W' := w3) (fun _ h _ => h) (fun q hq hl => T3.out.block q hl (by have := hq.1; omega))) (show ClassIn (fun q => W0.heap.size ≤ q ∧ some q ≠ (Value.slice la l.length lc).ownBlock) w3 y (.slice fa y.fields.length fc) (.slice ma y.methods.length mc) from
          ⟨HPA.out.keep (W' := w3) (fun q hq hl => ⟨by have : wr.heap.size ≤ q := hq; omega, fun e => by have := (hownc q e).2; have : wr.heap.size ≤ q := hq; omega⟩) (fun _ _ _ => rfl), HMA.out.keep (W' := w3) (fun q hq hl => ⟨by have : wr.heap.size ≤ q := hq; omega, fun e => by have := (hownc q e).2; have : wr.heap.size ≤ q := hq; omega⟩) (fun _ _ _ => rfl)⟩) HOA.out HGA.out (HATA.out.elim (fun e => .inl e.symm) (fun e => .inr (congrArg some e)))
        have MB := Lib.hid (mb.keep (W' := wa.setCell ⟨w.heap.size, 0, none⟩ (.slice (some ⟨g0, 0, none⟩) (l.length + 1) cap)) (fun _ h _ => h) (fun q hq hl => Below.heap_setCell wa ⟨w.heap.size, 0, none⟩ _ q (by dsimp only; omega)) (fun g e => Below.heap_setCell wa ⟨w.heap.size, 0, none⟩ _ g (by have := (HOA.out.lt g e).1; dsimp only; omega)))
        have hz5 : W0.heap.size ≤ (wa.setCell ⟨w.heap.size, 0, none⟩ (.slice (some ⟨g0, 0, none⟩) (l.length + 1) cap)).heap.size := by have := hTB.out.size; omega
        clear mb hTA hTB hwz
        go_wp2_with fail
        go_roundg k
        case measure => omega
        case rel => exact ⟨_, l ++ [y], s3, by omega, RP, R0, R1, R2, RB, MB, HR3, hz5, by rw [hlen3]; omega⟩
end Go.Proofs.YtcaigcmbgihhkaaGreatDoor
namespace Go.Proofs.YtcaigcmbgihhkaaGreatDoor
open Go Go.RowKit Go.Shelf
set_option linter.unusedVariables false
set_option linter.unusedSimpArgs false
attribute [local go_sem] Oper.semAt_some
def ParseR (n : Nat) (r : Except Fault (List ClassD)) (e : Ending) (w' : World) : Prop := match r with
  | .error f => e = .returned (.tuple #[.slice none 0 0, .int .i64 f.1, .int .i64 f.2])
  | .ok l => ∃ v, e = .returned (.tuple #[v, .int .i64 0, .int .i64 0]) ∧ ClassesAt (fun k => n ≤ k) w' l v
theorem parse_any (w : World) (src : ByteArray) (hs : src.size ≤ 140737488351232) (hS : SpaceAt w) :
    Calls Tryz.prog 16 #[.string src] w fun e w' => Below w.heap.size w w' ∧ ParseR w.heap.size (parseL (bl src)) e w' := by
  by_cases hw : (lexL (bl src)).2.2 = 0
  · have hlen := lexL_len (bl src)
    have hn := tot_classes (src.size : Int) (stepsL (lexL (bl src)).1) ((lexL (bl src)).1.length + 1) [] ⟨(lexL (bl src)).1, 0⟩ (by simp) (by simp [stepsL])
    obtain ⟨r, hr⟩ : ∃ r, classesP (src.size : Int) (stepsL (lexL (bl src)).1) ((lexL (bl src)).1.length + 1) [] ⟨(lexL (bl src)).1, 0⟩ = some r := by
      revert hn
      generalize classesP (src.size : Int) (stepsL (lexL (bl src)).1) ((lexL (bl src)).1.length + 1) [] ⟨(lexL (bl src)).1, 0⟩ = x
      intro hn
      cases x with
      | none => exact absurd rfl hn
      | some r => exact ⟨r, rfl⟩
    refine (parse_good w src hs hS hw hlen (fun x hx => (lexL_isW _ x hx).text) r hr).mono ?_
    rintro e w' ⟨hb, hq⟩
    refine ⟨hb, ?_⟩
    unfold parseL
    rw [if_neg (fun h => h hw), bl_len, hr]
    rcases r with f | ⟨l, s⟩
    · exact hq
    · exact hq
  · refine (parse_bad w src hs hS hw).mono ?_
    rintro e w' ⟨rfl, hb⟩
    refine ⟨hb, ?_⟩
    unfold parseL
    rw [if_pos hw]
    exact rfl
end Go.Proofs.YtcaigcmbgihhkaaGreatDoor
