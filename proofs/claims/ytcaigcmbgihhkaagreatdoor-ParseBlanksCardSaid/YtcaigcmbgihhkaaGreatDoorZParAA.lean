/-
  Part of a proof: ParAA, ParAB.
-/
import Derived.Test.YtcaigcmbgihhkaaGreatDoorZParU
namespace Go.Proofs.YtcaigcmbgihhkaaGreatDoor
open Go Go.RowKit Go.Shelf
set_option linter.unusedVariables false
set_option linter.unusedSimpArgs false
attribute [local go_sem] Oper.semAt_some
def pcells (x : ParamD) : List Value := [.string (mkB x.name), .string (mkB x.type), .int .i64 x.at_]
def ParamsAt (ok : Nat → Prop) (W : World) (l : List ParamD) (v : Value) : Prop :=
  ∃ ao c, v = .slice ao l.length c ∧ l.length ≤ c ∧ c ≤ maxLen ∧ (l ≠ [] → ∃ g o, ao = some ⟨g, o, none⟩ ∧ ok g ∧ ∀ j x i u, l[j]? = some x → (pcells x)[i]? = some u → W.cell? ⟨g, o + j * 3 + i, none⟩ = some u)
theorem ParamsAt.nil (ok : Nat → Prop) (W : World) : ParamsAt ok W [] (.slice none 0 0) := ⟨none, 0, rfl, Nat.le_refl _, Nat.zero_le _, fun h => absurd rfl h⟩
theorem ParamsAt.form {ok : Nat → Prop} {W : World} {l : List ParamD} {v : Value} (h : ParamsAt ok W l v) : ∃ ao c, v = .slice ao l.length c := by
  obtain ⟨ao, c, h, _⟩ := h
  exact ⟨ao, c, h⟩
theorem ParamsAt.keep {ok ok' : Nat → Prop} {W W' : World} {l : List ParamD} {v : Value} (h : ParamsAt ok W l v) (hok : ∀ k, ok k → k < W.heap.size → ok' k) (hw : ∀ k, ok k → k < W.heap.size → W'.heap[k]? = W.heap[k]?) : ParamsAt ok' W' l v := by
  obtain ⟨ao, c, h1, h2, h3, h4⟩ := h
  refine ⟨ao, c, h1, h2, h3, fun hne => ?_⟩
  obtain ⟨g, o, e, hg, hc⟩ := h4 hne
  have hgl : g < W.heap.size := by
    cases l with
    | nil => exact absurd rfl hne
    | cons x t => exact cell_lt (hc 0 x 0 _ rfl rfl)
  exact ⟨g, o, e, hok g hg hgl, fun j x i u hx hu => (World.cell?_of_block (a := ⟨g, o + j * 3 + i, none⟩) (hw g hg hgl)).trans (hc j x i u hx hu)⟩
theorem ParamsAt.own {n0 : Nat} {W : World} {l : List ParamD} {v : Value} (h : W.ownsRow n0 104 3 v l.length (l.flatMap pcells)) : ParamsAt (fun k => n0 ≤ k) W l v := by
  rcases h.2 with ⟨rfl, hn⟩ | ⟨g, cap, cur, rfl, hg, hb, h1, h2, h3, h4⟩
  · have : l = [] := List.eq_nil_of_length_eq_zero hn
    subst this
    exact ParamsAt.nil _ _
  · refine ⟨_, cap, rfl, h1, h2, fun _ => ⟨g, 0, rfl, hg, fun j x i u hx hu => ?_⟩⟩
    have hb' : Blk W g 104 cur := hb
    have hj := (List.getElem?_eq_some_iff.1 hx).1
    have hi : i < 3 := by have := (List.getElem?_eq_some_iff.1 hu).1; simpa [pcells] using this
    rw [hb'.cell, Nat.zero_add, take_get h4 (j * 3 + i) (by omega), flatMap_get pcells 3 (fun p => rfl) l j i x hx hi]
    exact hu
theorem param_info : (Tryz.prog.info? 104).map (fun i => (i.zero, i.size, i.bytes)) = some (some (.agg #[.string ⟨#[]⟩, .string ⟨#[]⟩, .int .i64 0]), 3, 40) := by kernel_rfl
set_option maxRecDepth 100000 in
set_option maxHeartbeats 2000000 in
theorem param_any (w : World) (pB : Nat) (en : Int) (s : PSt) (r : Except Fault (ParamD × PSt)) (h : PAt w pB en s) (hr : paramP en s = some r) :
    Calls Tryz.prog 71 #[.pointer (some ⟨pB, 0, none⟩)] w (PEnd pB en w (fun a e _ => e = .returned (.agg #[.string (mkB a.name), .string (mkB a.type), .int .i64 a.at_])) r) := by
  have RA := Lib.hid ((Rd.start h).alloc 104 #[.string ⟨#[]⟩, .string ⟨#[]⟩, .int .i64 0])
  have HR := Lib.hid hr
  clear h hr
  go_enter Tryz.func71, Tryz.ntmps71
  go_wp2_with fail
  refine RA.out.whole HR.out (fun fl w' e ht => ?_) (fun d s2 w2 hr2 hl2 R2 => ?_)
  · subst e; go_wp2_with fail; exact ⟨rfl, rfl, ht⟩
  have HR2 := Lib.hid hr2
  have hlt := (R2.out.six6 (.head _)).lt
  have hne : w.heap.size ≠ w2.heap.size := by omega
  have R3 := Lib.hid (R2.out.alloc 104 #[.string ⟨#[]⟩, .string (mkB d), .int .i64 0])
  clear hr2
  go_wp2_with fail
  refine R3.out.name HR2.out (fun fl w' e ht => ?_) (fun x s4 w4 hr4 hl4 R4 => ?_)
  · subst e; go_wp2_with fail; exact ⟨rfl, rfl, ht⟩
  obtain rfl : r = .ok (⟨x.1, d, x.2⟩, s4) := by simpa [PM.pure] using hr4.symm
  have b4 := R4.out.six6 (.head _)
  have n0 : w4.cell? ⟨w2.heap.size, 0, none⟩ = some (.string ⟨#[]⟩) := b4.cell 0
  have n1 : w4.cell? ⟨w2.heap.size, 1, none⟩ = some (.string (mkB d)) := b4.cell 1
  have n2 : w4.cell? ⟨w2.heap.size, 2, none⟩ = some (.int .i64 0) := b4.cell 2
  have nf := b4.frozen
  have c4 := R4.out.six6 (.tail _ (.head _))
  have r0 : w4.cell? ⟨w.heap.size, 0, none⟩ = some (.string ⟨#[]⟩) := c4.cell 0
  have r1 : w4.cell? ⟨w.heap.size, 1, none⟩ = some (.string ⟨#[]⟩) := c4.cell 1
  have r2 : w4.cell? ⟨w.heap.size, 2, none⟩ = some (.int .i64 0) := c4.cell 2
  have rf := c4.frozen
  have hne' : w2.heap.size ≠ w.heap.size := by omega
  have R5 := Lib.hid ((((((R4.out.set (one_ne hne) 0 (.string (mkB x.1))).set (one_ne hne) 2 (.int .i64 x.2)).swap.set (one_ne hne') 0 (.string (mkB x.1))).set (one_ne hne') 1 (.string (mkB d))).set (one_ne hne') 2 (.int .i64 x.2)))
  clear hr4 b4 c4
  go_wp2_with fail
  refine bodyPost_ret (results_cell_row (fn := Tryz.f71) rfl _ _ w.heap.size 104 _ (0, 0) _ rfl (R5.out.six6 (.head _)) rfl rfl (by kernel_rfl)) rfl ⟨rfl, R5.out.pat, R5.out.tch⟩
end Go.Proofs.YtcaigcmbgihhkaaGreatDoor
namespace Go.Proofs.YtcaigcmbgihhkaaGreatDoor
open Go Go.RowKit Go.Shelf
set_option linter.unusedVariables false
set_option linter.unusedSimpArgs false
attribute [local go_sem] Oper.semAt_some
theorem PM.assoc {α β γ : Type} (m : PM α) (f : α → PM β) (g : β → PM γ) (s : PSt) : PM.bind (PM.bind m f) g s = PM.bind m (fun a => PM.bind (f a) g) s := by
  unfold PM.bind
  cases m s with
  | none => rfl
  | some r =>
    cases r with
    | error e => rfl
    | ok x => rfl
theorem PM.assoc_fun {α β γ : Type} (m : PM α) (f : α → PM β) (g : β → PM γ) : PM.bind (PM.bind m f) g = PM.bind m (fun a => PM.bind (f a) g) := funext fun s => PM.assoc m f g s
theorem PM.bind_congr {α β : Type} {m m' : PM α} {f : α → PM β} {s : PSt} (h : m s = m' s) : PM.bind m f s = PM.bind m' f s := by unfold PM.bind; rw [h]
theorem Rd.mustT {β : Type} {r : Except Fault (β × PSt)} {Φ : Ending → World → Prop} {pB : Nat} {en : Int} {w W : World} {Ls : List (Nat × TypeId × Array Value)} {Ks : List (List NodeD × Value)} {s : PSt} (h : Rd pB en w Ls Ks W s) {f : Unit → PM β} {t : Bs} (hr : PM.bind (mustP en [t]) f s = some r) {T : TypeId} {q : Nat} {b : ByteArray} (hq : q = W.heap.size) (hb : bl b = t)
    (hE : ∀ fl w', r = .error fl → Tch pB w w' → Φ (.panicked (faultC fl)) w') (hK : ∀ s' w', f () s' = some r → s'.ws.length < s.ws.length → Hid (Rd pB en w Ls Ks w' s') → Hid (Tch pB W w') → Φ (.returned (.int .i64 (placeP en s))) w') :
    Calls Tryz.prog 68 #[.pointer (some ⟨pB, 0, none⟩), .slice (some ⟨q, 0, none⟩) 1 1] (W.alloc (.cells #[.string b] T)) Φ := by
  refine bind_call hr (fun r1 h1 => must1 W T pB en s r1 q hq b t hb h.pat h1) (fun fl w' e ht => hE fl w' e (Tch.trans h.tch ht)) ?_
  rintro a s' e w' h2 h1 rfl hp ht
  exact hK s' w' h2 (ln_must en _ _ _ _ _ h1) (Lib.hid (h.call hp ht)) (Lib.hid ht)
theorem Rd.grown {pB : Nat} {en : Int} {w W W' : World} {Ls : List (Nat × TypeId × Array Value)} {s : PSt} {row : Option Nat} {n0 : Nat} (h : Rd pB en w Ls [] W s) (hg : W.grownBy W' row) (h0 : ∀ q, some q = row → n0 ≤ q) (hL : ∀ x ∈ Ls, x.1 < n0) (hl : ∀ q, some q = row → q < W.heap.size) (hw : w.heap.size ≤ n0 := by omega) : Rd pB en w Ls [] W' s :=
  ⟨h.pat.block (fun k hk => hg.block k (by have := h.wlt; omega) (fun e => by have := h0 k e; have := h.plt; omega)), Touch.grown h.tch hg (fun i e => .inr ⟨by have := h0 i e.symm; omega, hl i e.symm⟩), fun x hx => ⟨(h.blk x hx).1.kept hg (fun e => by have := h0 _ e; have := hL x hx; omega), (h.blk x hx).2⟩, fun x hx => by simp at hx, h.plt⟩
def MethodQ (w : World) (a : MethodD) (e : Ending) (w' : World) : Prop := ∃ tv ka kc, e = .returned (.agg #[.string (mkB a.name), .string (mkB a.gives), tv, .int .i64 a.body.op, .string (mkB a.body.text), .string (mkB a.body.type), .int .i64 a.body.n, .slice ka a.body.kids.length kc, .int .i64 a.body.at_, .int .i64 a.at_]) ∧ ParamsAt (fun k => w.heap.size ≤ k) w' a.takes tv ∧ KidsAt (fun k => w.heap.size ≤ k) w' a.body.kids (.slice ka a.body.kids.length kc)
theorem Blk.ten {W : World} {q : Nat} {T : TypeId} {a b c d e f g h i j : Value} (H : Blk W q T #[a, b, c, d, e, f, g, h, i, j]) :
    W.cell? ⟨q, 0, none⟩ = some a ∧ W.cell? ⟨q, 1, none⟩ = some b ∧ W.cell? ⟨q, 2, none⟩ = some c ∧ W.cell? ⟨q, 3, none⟩ = some d ∧ W.cell? ⟨q, 4, none⟩ = some e ∧ W.cell? ⟨q, 5, none⟩ = some f ∧ W.cell? ⟨q, 6, none⟩ = some g ∧ W.cell? ⟨q, 7, none⟩ = some h ∧ W.cell? ⟨q, 8, none⟩ = some i ∧ W.cell? ⟨q, 9, none⟩ = some j ∧ (∀ i, W.frozen? ⟨q, i, none⟩ = false) ∧ q < W.heap.size :=
  ⟨H.cell 0, H.cell 1, H.cell 2, H.cell 3, H.cell 4, H.cell 5, H.cell 6, H.cell 7, H.cell 8, H.cell 9, H.frozen, H.lt⟩
theorem ln_param (en : Int) : Ln (paramP en) := Ln.bindL (ln_whole en) (fun d => Mn.bind (mn_name en) (fun x => Mn.pure _))
set_option maxRecDepth 100000 in
set_option maxHeartbeats 4000000 in
theorem method_any (m : Nat) (HB : NTC m .block 106) (w : World) (pB : Nat) (en : Int) (s : PSt) (r : Except Fault (MethodD × PSt)) (h : PAt w pB en s) (hr : methodP en m s = some r) :
    Calls Tryz.prog 72 #[.pointer (some ⟨pB, 0, none⟩)] w (PEnd pB en w (MethodQ w) r) := by
  have hpl := h.lt
  have RA := Lib.hid (((Rd.start h).alloc 81 #[.string ⟨#[]⟩, .string ⟨#[]⟩, .slice none 0 0, .int .i64 0, .string ⟨#[]⟩, .string ⟨#[]⟩, .int .i64 0, .slice none 0 0, .int .i64 0, .int .i64 0]).alloc' 81 #[.string ⟨#[]⟩, .string ⟨#[86]⟩, .slice none 0 0, .int .i64 0, .string ⟨#[]⟩, .string ⟨#[]⟩, .int .i64 0, .slice none 0 0, .int .i64 0, .int .i64 0] (w.heap.size + 1) (by simp))
  have hne : w.heap.size ≠ w.heap.size + 1 := by omega
  have HR := Lib.hid hr
  clear h hr
  go_enter Tryz.func72, Tryz.ntmps72
  go_wp2_with fail
  have hr := HR.out
  unfold methodP at hr
  cases ha : aheadP s 0 [117, 110, 105, 116] with
  | true =>
    rw [PM.bind, if_pos ha] at hr
    have HA := Lib.hid ha
    have HR1 := Lib.hid hr
    clear hr ha HR
    refine (RA.out.mayY (b := ⟨#[117, 110, 105, 116]⟩) rfl HA.out).mono ?_
    rintro e w2 ⟨rfl, R2⟩
    obtain ⟨g, hg⟩ : ∃ g : Bs, g = [86] := ⟨_, rfl⟩
    rw [← hg] at HR1
    have hgb : (⟨#[86]⟩ : ByteArray) = mkB g := by rw [hg]; rfl
    rw [hgb] at R2
    clear hg
    have HR := HR1
    go_wp2_with fail
    refine R2.out.name HR1.out (fun fl w' e ht => ?_) (fun x s4 w4 hr4 hl4 R4 => ?_)
    · subst e; go_wp2_with fail; exact ⟨rfl, rfl, ht⟩
    have HR4 := Lib.hid hr4
    obtain ⟨n0, n1, n2, n3, n4, n5, n6, n7, n8, n9, nf, nl⟩ := (R4.out.six6 (.head _)).ten
    have R5 := (R4.out.set (one_ne hne) 0 (.string (mkB x.1))).set (one_ne hne) 4 (.int .i64 0)
    have R5 := Lib.hid ((R4.out.set (one_ne hne) 0 (.string (mkB x.1))).set (one_ne hne) 9 (.int .i64 x.2))
    simp only [List.setIfInBounds_toArray, List.set_cons_zero, List.set_cons_succ] at R5
    clear hr4
    go_wp2_with fail
    refine R5.out.must HR4.out (by simp [World.setCell]) rfl (fun fl w' e ht => ?_) (fun s6 w6 hr6 hl6 R6 => ?_)
    · subst e; go_wp2_with fail; exact ⟨rfl, rfl, ht⟩
    have HR6 := Lib.hid hr6
    have hw6 : w.heap.size + 1 < w6.heap.size := (R6.out.six6 (.head _)).lt
    have hl0 : ([] : List ParamD).length + s6.ws.length ≤ 1000000 := by have := R6.out.pat.2.1; simpa using this
    have O6 := Lib.hid (World.ownsRow_nil w6 (w.heap.size + 1 + 1) 104 3)
    clear hr6
    go_wp2_with fail
    go_loopg [] m (fun k wr => ∃ (tv : Value) (acc : List ParamD) (s' : PSt), k ≤ m ∧ Hid (Rd pB en w [(w.heap.size + 1, 81, #[.string (mkB x.1), .string (mkB g), tv, .int .i64 0, .string ⟨#[]⟩, .string ⟨#[]⟩, .int .i64 0, .slice none 0 0, .int .i64 0, .int .i64 x.2]), (w.heap.size, 81, #[.string ⟨#[]⟩, .string ⟨#[]⟩, .slice none 0 0, .int .i64 0, .string ⟨#[]⟩, .string ⟨#[]⟩, .int .i64 0, .slice none 0 0, .int .i64 0, .int .i64 0])] [] wr s') ∧ Hid (wr.ownsRow (w.heap.size + 1 + 1) 104 3 tv acc.length (acc.flatMap pcells)) ∧ Hid (PM.bind (takesP en k acc) (fun t => PM.bind (runP en m .block) fun b => PM.pure ⟨x.1, g, t, b, x.2⟩) s' = some r) ∧ acc.length + s'.ws.length ≤ 1000000)
    case atStart => exact ⟨.slice none 0 0, [], s6, Nat.le_refl _, R6, O6, HR6, hl0⟩
    case round =>
      clear R6 O6 HR6 hl0 R5 HR4 R4 HR
      obtain ⟨tv, acc, s', hk, RR, OO, HRn, hlen⟩ := hrel
      obtain ⟨n0, n1, n2, n3, n4, n5, n6, n7, n8, n9, nf, nl⟩ := (RR.out.six6 (.head _)).ten
      obtain ⟨ao, c, rfl⟩ := own_form OO.out
      cases gk with
      | zero => exact absurd HRn.out (by simp [takesP, PM.bind])
      | succ k =>
        have hr := HRn.out
        cases ha : aheadP s' 0 [41] with
        | true =>
          rw [takesP, PM.bind, if_pos ha] at hr
          have HA := Lib.hid ha
          have HR1 := Lib.hid hr
          clear hr ha HRn
          go_wp2_with fail
          refine (may_yes wr pB en s' ⟨#[41]⟩ _ rfl RR.out.pat HA.out).mono ?_
          rintro e w7 ⟨rfl, hp7, ht7⟩
          have R7 := Lib.hid (RR.out.call hp7.out ht7.out)
          have O7 := Lib.hid (own_touch OO.out ht7.out (fun k hk => by omega))
          go_wp2_with fail
          refine R7.out.ntT HR1.out (fun r1 h1 => HB _ pB en _ r1 R7.out.pat h1) trivial (fun fl w' e ht => ?_) (fun b v s8 w8 hr8 hl8 R8 T8 hv => ?_)
          · subst e; go_wp2_with fail; exact ⟨rfl, rfl, ht⟩
          obtain ⟨ka, kc, rfl⟩ := hv
          obtain rfl : r = .ok (⟨x.1, g, acc, b, x.2⟩, s8) := by simpa [PM.pure] using hr8.symm
          have O8 := Lib.hid (own_touch O7.out T8.out (fun k hk => by omega))
          obtain ⟨m0, m1, m2, m3, m4, m5, m6, m7, m8, m9, mf, ml⟩ := (R8.out.six6 (.head _)).ten
          have R9 := Lib.hid ((((((R8.out.set (one_ne hne) 3 (.int .i64 b.op)).set (one_ne hne) 4 (.string (mkB b.text))).set (one_ne hne) 5 (.string (mkB b.type))).set (one_ne hne) 6 (.int .i64 b.n)).set (one_ne hne) 7 (.slice ka b.kids.length kc)).set (one_ne hne) 8 (.int .i64 b.at_))
          have hne' : w.heap.size + 1 ≠ w.heap.size := by omega
          have RF := Lib.hid (((((((((((R9.out.swap.set (one_ne hne') 0 (.string (mkB x.1))).set (one_ne hne') 1 (.string (mkB g))).set (one_ne hne') 2 (.slice ao acc.length c)).set (one_ne hne') 3 (.int .i64 b.op)).set (one_ne hne') 4 (.string (mkB b.text))).set (one_ne hne') 5 (.string (mkB b.type))).set (one_ne hne') 6 (.int .i64 b.n)).set (one_ne hne') 7 (.slice ka b.kids.length kc)).set (one_ne hne') 8 (.int .i64 b.at_)).set (one_ne hne') 9 (.int .i64 x.2)))
          simp only [List.setIfInBounds_toArray, List.set_cons_zero, List.set_cons_succ] at RF
          obtain ⟨r0, r1, r2, r3, r4, r5, r6, r7, r8, r9, rf, rl⟩ := (R8.out.six6 (.tail _ (.head _))).ten
          go_wp2_with fail
          refine bodyPost_ret (results_cell_row (fn := Tryz.f72) rfl _ _ w.heap.size 81 _ (0, 0) _ rfl (RF.out.six6 (.head _)) rfl rfl (by kernel_rfl)) rfl ⟨⟨.slice ao acc.length c, ka, kc, rfl, ?_, (RF.out.kid (b.kids, _) (.head _)).mono (fun k h _ => h.1)⟩, RF.out.pat, RF.out.tch⟩
          refine (ParamsAt.own O8.out).keep (fun k hk _ => by omega) (fun k hk hl => ?_)
          iterate 16 refine (Below.heap_setCell _ ⟨_, _, none⟩ _ k (by dsimp only; omega)).trans ?_
          rfl
        | false =>
          have hr2 : PM.bind (PM.bind (if 0 < acc.length then mustP en [[44]] else PM.pure ()) (fun _ => PM.bind (paramP en) fun x => takesP en k (acc ++ [x]))) (fun t => PM.bind (runP en m .block) fun b => PM.pure ⟨x.1, g, t, b, x.2⟩) s' = some r := by
            rw [← hr]
            refine PM.bind_congr ?_
            simp only [takesP, ha, Bool.false_eq_true, if_false]
          rw [PM.assoc] at hr2
          simp only [PM.assoc_fun] at hr2
          have HA := Lib.hid ha
          have hln : (acc.length : Int) ≤ 9223372036854775807 := by omega
          have hm := Lib.hid (may_no wr pB en s' ⟨#[41]⟩ _ rfl RR.out.pat ha)
          clear hr ha HRn
          by_cases h1 : 0 < acc.length
          · have hb : decide (0 < (acc.length : Int)) = true := decide_eq_true (by omega)
            have hbN : decide (0 < acc.length) = true := decide_eq_true h1
            rw [if_pos h1] at hr2
            have HR1 := Lib.hid hr2
            clear hr2 h1
            go_wp2_with fail
            refine hm.out.mono ?_
            rintro e w0 ⟨rfl, rfl⟩
            go_wp2_with fail
            refine RR.out.mustT HR1.out rfl rfl (fun fl w' e ht => ?_) (fun s1 w1 hr1 hl1 R1 T1 => ?_)
            · subst e; go_wp2_with fail; exact ⟨rfl, rfl, ht⟩
            have HL1 : s1.ws.length ≤ s'.ws.length := Nat.le_of_lt hl1
            have HR2 := Lib.hid hr1
            have O1 := Lib.hid (own_touch OO.out T1.out (fun k hk => by omega))
            clear hr1
            have hne2 : ∀ q, q ≤ w.heap.size + 1 → some q ≠ (Value.slice ao acc.length c).ownBlock := fun q hq e => by have := (O1.out.lt q e.symm).1; omega
            obtain ⟨i0, hi0, hz0, hz1, hz2⟩ := info_of param_info
            have b1 := R1.out.six6 (.head _)
            obtain ⟨m0, m1, m2, m3, m4, m5, m6, m7, m8, m9, mf, ml⟩ := b1.ten
            have m2a : ∀ o, (w1.alloc o).cell? ⟨w.heap.size + 1, 2, none⟩ = some (.slice ao acc.length c) := fun o => (b1.alloc o).cell 2
            clear b1
            go_wp2_with fail
            go_region_law (first
              | (go_simp; go_at_call 71; go_loud (refine bind_call HR2.out (fun r1 h1 => param_any w1.drew pB en s1 r1 R1.out.drew.pat h1) (fun fl w' e ht => by subst e; go_wp2_with fail; exact ⟨rfl, rfl, Tch.trans R1.out.drew.tch ht⟩) ?_; rintro y s2 e w2 hr2 h1 rfl hp2 ht2; have R2 := Lib.hid (R1.out.drew.call hp2 ht2); have O2 := Lib.hid (own_touch (W := w1.drew) O1.out.drew ht2 (fun k hk => by omega)); have b2 := R2.out.six6 (.head _); have q2 : w2.cell? ⟨w.heap.size + 1, 2, none⟩ = some (.slice ao acc.length c) := b2.cell 2; have q2a : ∀ o, (w2.alloc o).cell? ⟨w.heap.size + 1, 2, none⟩ = some (.slice ao acc.length c) := fun o => (b2.alloc o).cell 2; have hl2 := ln_param en _ _ _ h1; have HR3 := Lib.hid hr2; have hz2' := b2.lt; clear hr2 h1 hp2 ht2 b2))
              | (go_loud (refine step_append_lies _ rfl _ _ 47 rfl (w.heap.size + 1 + 1) 104 i0 (.agg #[.string ⟨#[]⟩, .string ⟨#[]⟩, .int .i64 0]) 3 40 Tryz.underlying47 hi0 hz0 hz1 hz2 rfl (by decide) (.slice ao acc.length c) acc.length _ (by rfl) (O2.out.alloc _) ⟨w2.heap.size, 0, none⟩ 1 1 (pcells y) (by rfl) (by rfl) (news_at _ _ (pcells y)) (by simp [pcells, Value.oneCell']) (by omega) (by unfold maxLen; omega) (by omega) (by simp; omega) _ (by rfl) ?_; intro g0 cap wa hoa hga hata hla; have ba := ((R2.out.six6 (.head _)).alloc _).kept hga (hne2 _ (Nat.le_refl _)); have ca2 := ba.cell 2; have caf := ba.frozen 2; have HOA := Lib.hid hoa; have HGA := Lib.hid hga; have HATA := Lib.hid hata; have BA := Lib.hid ba; clear hoa hga hata ba)))
            all_goals
              go_wp2_with fail
              go_roundg k
              case measure => omega
              case rel =>
                have hlen3 : (acc ++ [y]).length = acc.length + 1 := by simp
                have hown : ∀ q, some q = (Value.slice ao acc.length c).ownBlock → w.heap.size + 1 + 1 ≤ q ∧ q < w2.heap.size := fun q e => O2.out.lt q e.symm
                have R3 := R2.out.alloc0 (.cells #[.string (mkB y.name), .string (mkB y.type), .int .i64 y.at_] 104)
                have R4 := R3.grown HGA.out (fun q e => (hown q e).1) (by intro x hx; simp only [List.mem_cons, List.not_mem_nil, or_false] at hx; rcases hx with rfl | rfl <;> (dsimp only; omega)) (fun q e => by have := (hown q e).2; simp; omega)
                have R5 := R4.set (one_ne hne) 2 (.slice (some ⟨g0, 0, none⟩) (acc.length + 1) cap)
                simp only [List.setIfInBounds_toArray, List.set_cons_zero, List.set_cons_succ] at R5
                refine ⟨.slice (some ⟨g0, 0, none⟩) (acc.length + 1) cap, acc ++ [y], s2, by omega, Lib.hid R5, Lib.hid ?_, HR3, by rw [hlen3]; omega⟩
                rw [hlen3]
                have ho3 : World.ownsRow _ _ _ _ _ _ _ := own_touch HOA.out ((Touch.refl (fun i => i = w.heap.size + 1) wa).setCell (p := ⟨w.heap.size + 1, 2, none⟩) (.inl rfl) (.slice (some ⟨g0, 0, none⟩) (acc.length + 1) cap)) (fun k hk => by omega)
                simpa [pcells] using ho3
          · have hb : decide (0 < (acc.length : Int)) = false := decide_eq_false (by omega)
            have hbN : decide (0 < acc.length) = false := decide_eq_false h1
            rw [if_neg h1] at hr2
            obtain ⟨s1, hs1⟩ : ∃ s1, s1 = s' := ⟨_, rfl⟩
            have HR2 : Hid (PM.bind (paramP en) (fun y => PM.bind (takesP en k (acc ++ [y])) (fun t => PM.bind (runP en m .block) fun b => PM.pure ⟨x.1, g, t, b, x.2⟩)) s1 = some r) := Lib.hid (by rw [hs1]; exact hr2)
            have HL1 : s1.ws.length ≤ s'.ws.length := by rw [hs1]; exact Nat.le_refl _
            have hm2 : Hid (Calls Tryz.prog 70 #[.pointer (some ⟨pB, 0, none⟩), .string ⟨#[41]⟩] wr fun e w' => e = .returned (.bool false) ∧ Hid (Rd pB en w [(w.heap.size + 1, 81, #[.string (mkB x.1), .string (mkB g), .slice ao acc.length c, .int .i64 0, .string ⟨#[]⟩, .string ⟨#[]⟩, .int .i64 0, .slice none 0 0, .int .i64 0, .int .i64 x.2]), (w.heap.size, 81, #[.string ⟨#[]⟩, .string ⟨#[]⟩, .slice none 0 0, .int .i64 0, .string ⟨#[]⟩, .string ⟨#[]⟩, .int .i64 0, .slice none 0 0, .int .i64 0, .int .i64 0])] [] w' s1) ∧ Hid (w'.ownsRow (w.heap.size + 1 + 1) 104 3 (.slice ao acc.length c) acc.length (acc.flatMap pcells))) := Lib.hid (hm.out.mono fun e w' ⟨e1, e2⟩ => ⟨e1, Lib.hid (by rw [hs1, ← e2]; exact RR.out), Lib.hid (by rw [← e2]; exact OO.out)⟩)
            clear hr2 h1 hs1 hm RR OO n0 n1 n2 n3 n4 n5 n6 n7 n8 n9 nf nl
            go_wp2_with fail
            refine hm2.out.mono ?_
            rintro e w1 ⟨rfl, R1, O1⟩
            obtain ⟨n0, n1, n2, n3, n4, n5, n6, n7, n8, n9, nf, nl⟩ := (R1.out.six6 (.head _)).ten
            have hne2 : ∀ q, q ≤ w.heap.size + 1 → some q ≠ (Value.slice ao acc.length c).ownBlock := fun q hq e => by have := (O1.out.lt q e.symm).1; omega
            obtain ⟨i0, hi0, hz0, hz1, hz2⟩ := info_of param_info
            have b1 := R1.out.six6 (.head _)
            obtain ⟨m0, m1, m2, m3, m4, m5, m6, m7, m8, m9, mf, ml⟩ := b1.ten
            have m2a : ∀ o, (w1.alloc o).cell? ⟨w.heap.size + 1, 2, none⟩ = some (.slice ao acc.length c) := fun o => (b1.alloc o).cell 2
            clear b1
            go_wp2_with fail
            go_region_law (first
              | (go_simp; go_at_call 71; go_loud (refine bind_call HR2.out (fun r1 h1 => param_any w1.drew pB en s1 r1 R1.out.drew.pat h1) (fun fl w' e ht => by subst e; go_wp2_with fail; exact ⟨rfl, rfl, Tch.trans R1.out.drew.tch ht⟩) ?_; rintro y s2 e w2 hr2 h1 rfl hp2 ht2; have R2 := Lib.hid (R1.out.drew.call hp2 ht2); have O2 := Lib.hid (own_touch (W := w1.drew) O1.out.drew ht2 (fun k hk => by omega)); have b2 := R2.out.six6 (.head _); have q2 : w2.cell? ⟨w.heap.size + 1, 2, none⟩ = some (.slice ao acc.length c) := b2.cell 2; have q2a : ∀ o, (w2.alloc o).cell? ⟨w.heap.size + 1, 2, none⟩ = some (.slice ao acc.length c) := fun o => (b2.alloc o).cell 2; have hl2 := ln_param en _ _ _ h1; have HR3 := Lib.hid hr2; have hz2' := b2.lt; clear hr2 h1 hp2 ht2 b2))
              | (go_loud (refine step_append_lies _ rfl _ _ 47 rfl (w.heap.size + 1 + 1) 104 i0 (.agg #[.string ⟨#[]⟩, .string ⟨#[]⟩, .int .i64 0]) 3 40 Tryz.underlying47 hi0 hz0 hz1 hz2 rfl (by decide) (.slice ao acc.length c) acc.length _ (by rfl) (O2.out.alloc _) ⟨w2.heap.size, 0, none⟩ 1 1 (pcells y) (by rfl) (by rfl) (news_at _ _ (pcells y)) (by simp [pcells, Value.oneCell']) (by omega) (by unfold maxLen; omega) (by omega) (by simp; omega) _ (by rfl) ?_; intro g0 cap wa hoa hga hata hla; have ba := ((R2.out.six6 (.head _)).alloc _).kept hga (hne2 _ (Nat.le_refl _)); have ca2 := ba.cell 2; have caf := ba.frozen 2; have HOA := Lib.hid hoa; have HGA := Lib.hid hga; have HATA := Lib.hid hata; have BA := Lib.hid ba; clear hoa hga hata ba)))
            all_goals
              go_wp2_with fail
              go_roundg k
              case measure => omega
              case rel =>
                have hlen3 : (acc ++ [y]).length = acc.length + 1 := by simp
                have hown : ∀ q, some q = (Value.slice ao acc.length c).ownBlock → w.heap.size + 1 + 1 ≤ q ∧ q < w2.heap.size := fun q e => O2.out.lt q e.symm
                have R3 := R2.out.alloc0 (.cells #[.string (mkB y.name), .string (mkB y.type), .int .i64 y.at_] 104)
                have R4 := R3.grown HGA.out (fun q e => (hown q e).1) (by intro x hx; simp only [List.mem_cons, List.not_mem_nil, or_false] at hx; rcases hx with rfl | rfl <;> (dsimp only; omega)) (fun q e => by have := (hown q e).2; simp; omega)
                have R5 := R4.set (one_ne hne) 2 (.slice (some ⟨g0, 0, none⟩) (acc.length + 1) cap)
                simp only [List.setIfInBounds_toArray, List.set_cons_zero, List.set_cons_succ] at R5
                refine ⟨.slice (some ⟨g0, 0, none⟩) (acc.length + 1) cap, acc ++ [y], s2, by omega, Lib.hid R5, Lib.hid ?_, HR3, by rw [hlen3]; omega⟩
                rw [hlen3]
                have ho3 : World.ownsRow _ _ _ _ _ _ _ := own_touch HOA.out ((Touch.refl (fun i => i = w.heap.size + 1) wa).setCell (p := ⟨w.heap.size + 1, 2, none⟩) (.inl rfl) (.slice (some ⟨g0, 0, none⟩) (acc.length + 1) cap)) (fun k hk => by omega)
                simpa [pcells] using ho3
  | false =>
    have hr2 := (PM.bind_congr (m' := wholeP en) (by rw [if_neg (by rw [ha]; decide)])).symm.trans hr
    have HA := Lib.hid ha
    have HR2 := Lib.hid hr2
    clear hr hr2 ha HR
    refine (RA.out.mayNR (b := ⟨#[117, 110, 105, 116]⟩) rfl HA.out).mono ?_
    rintro e w2 ⟨rfl, R2⟩
    go_wp2_with fail
    refine R2.out.whole HR2.out (fun fl w' e ht => ?_) (fun g s3 w3 hr3 hl3 R3 => ?_)
    · subst e; go_wp2_with fail; exact ⟨rfl, rfl, ht⟩
    have HR := Lib.hid hr3
    obtain ⟨y0, y1, y2, y3, y4, y5, y6, y7, y8, y9, yf, yl⟩ := (R3.out.six6 (.head _)).ten
    have RY := Lib.hid (R3.out.set (one_ne hne) 1 (.string (mkB g)))
    simp only [List.setIfInBounds_toArray, List.set_cons_zero, List.set_cons_succ] at RY
    clear hr3
    go_wp2_with fail
    refine RY.out.name HR.out (fun fl w' e ht => ?_) (fun x s4 w4 hr4 hl4 R4 => ?_)
    · subst e; go_wp2_with fail; exact ⟨rfl, rfl, ht⟩
    have HR4 := Lib.hid hr4
    obtain ⟨n0, n1, n2, n3, n4, n5, n6, n7, n8, n9, nf, nl⟩ := (R4.out.six6 (.head _)).ten
    have R5 := (R4.out.set (one_ne hne) 0 (.string (mkB x.1))).set (one_ne hne) 4 (.int .i64 0)
    have R5 := Lib.hid ((R4.out.set (one_ne hne) 0 (.string (mkB x.1))).set (one_ne hne) 9 (.int .i64 x.2))
    simp only [List.setIfInBounds_toArray, List.set_cons_zero, List.set_cons_succ] at R5
    clear hr4
    go_wp2_with fail
    refine R5.out.must HR4.out (by simp [World.setCell]) rfl (fun fl w' e ht => ?_) (fun s6 w6 hr6 hl6 R6 => ?_)
    · subst e; go_wp2_with fail; exact ⟨rfl, rfl, ht⟩
    have HR6 := Lib.hid hr6
    have hw6 : w.heap.size + 1 < w6.heap.size := (R6.out.six6 (.head _)).lt
    have hl0 : ([] : List ParamD).length + s6.ws.length ≤ 1000000 := by have := R6.out.pat.2.1; simpa using this
    have O6 := Lib.hid (World.ownsRow_nil w6 (w.heap.size + 1 + 1) 104 3)
    clear hr6
    go_wp2_with fail
    go_loopg [] m (fun k wr => ∃ (tv : Value) (acc : List ParamD) (s' : PSt), k ≤ m ∧ Hid (Rd pB en w [(w.heap.size + 1, 81, #[.string (mkB x.1), .string (mkB g), tv, .int .i64 0, .string ⟨#[]⟩, .string ⟨#[]⟩, .int .i64 0, .slice none 0 0, .int .i64 0, .int .i64 x.2]), (w.heap.size, 81, #[.string ⟨#[]⟩, .string ⟨#[]⟩, .slice none 0 0, .int .i64 0, .string ⟨#[]⟩, .string ⟨#[]⟩, .int .i64 0, .slice none 0 0, .int .i64 0, .int .i64 0])] [] wr s') ∧ Hid (wr.ownsRow (w.heap.size + 1 + 1) 104 3 tv acc.length (acc.flatMap pcells)) ∧ Hid (PM.bind (takesP en k acc) (fun t => PM.bind (runP en m .block) fun b => PM.pure ⟨x.1, g, t, b, x.2⟩) s' = some r) ∧ acc.length + s'.ws.length ≤ 1000000)
    case atStart => exact ⟨.slice none 0 0, [], s6, Nat.le_refl _, R6, O6, HR6, hl0⟩
    case round =>
      clear R6 O6 HR6 hl0 R5 HR4 R4 HR
      obtain ⟨tv, acc, s', hk, RR, OO, HRn, hlen⟩ := hrel
      obtain ⟨n0, n1, n2, n3, n4, n5, n6, n7, n8, n9, nf, nl⟩ := (RR.out.six6 (.head _)).ten
      obtain ⟨ao, c, rfl⟩ := own_form OO.out
      cases gk with
      | zero => exact absurd HRn.out (by simp [takesP, PM.bind])
      | succ k =>
        have hr := HRn.out
        cases ha : aheadP s' 0 [41] with
        | true =>
          rw [takesP, PM.bind, if_pos ha] at hr
          have HA := Lib.hid ha
          have HR1 := Lib.hid hr
          clear hr ha HRn
          go_wp2_with fail
          refine (may_yes wr pB en s' ⟨#[41]⟩ _ rfl RR.out.pat HA.out).mono ?_
          rintro e w7 ⟨rfl, hp7, ht7⟩
          have R7 := Lib.hid (RR.out.call hp7.out ht7.out)
          have O7 := Lib.hid (own_touch OO.out ht7.out (fun k hk => by omega))
          go_wp2_with fail
          refine R7.out.ntT HR1.out (fun r1 h1 => HB _ pB en _ r1 R7.out.pat h1) trivial (fun fl w' e ht => ?_) (fun b v s8 w8 hr8 hl8 R8 T8 hv => ?_)
          · subst e; go_wp2_with fail; exact ⟨rfl, rfl, ht⟩
          obtain ⟨ka, kc, rfl⟩ := hv
          obtain rfl : r = .ok (⟨x.1, g, acc, b, x.2⟩, s8) := by simpa [PM.pure] using hr8.symm
          have O8 := Lib.hid (own_touch O7.out T8.out (fun k hk => by omega))
          obtain ⟨m0, m1, m2, m3, m4, m5, m6, m7, m8, m9, mf, ml⟩ := (R8.out.six6 (.head _)).ten
          have R9 := Lib.hid ((((((R8.out.set (one_ne hne) 3 (.int .i64 b.op)).set (one_ne hne) 4 (.string (mkB b.text))).set (one_ne hne) 5 (.string (mkB b.type))).set (one_ne hne) 6 (.int .i64 b.n)).set (one_ne hne) 7 (.slice ka b.kids.length kc)).set (one_ne hne) 8 (.int .i64 b.at_))
          have hne' : w.heap.size + 1 ≠ w.heap.size := by omega
          have RF := Lib.hid (((((((((((R9.out.swap.set (one_ne hne') 0 (.string (mkB x.1))).set (one_ne hne') 1 (.string (mkB g))).set (one_ne hne') 2 (.slice ao acc.length c)).set (one_ne hne') 3 (.int .i64 b.op)).set (one_ne hne') 4 (.string (mkB b.text))).set (one_ne hne') 5 (.string (mkB b.type))).set (one_ne hne') 6 (.int .i64 b.n)).set (one_ne hne') 7 (.slice ka b.kids.length kc)).set (one_ne hne') 8 (.int .i64 b.at_)).set (one_ne hne') 9 (.int .i64 x.2)))
          simp only [List.setIfInBounds_toArray, List.set_cons_zero, List.set_cons_succ] at RF
          obtain ⟨r0, r1, r2, r3, r4, r5, r6, r7, r8, r9, rf, rl⟩ := (R8.out.six6 (.tail _ (.head _))).ten
          go_wp2_with fail
          refine bodyPost_ret (results_cell_row (fn := Tryz.f72) rfl _ _ w.heap.size 81 _ (0, 0) _ rfl (RF.out.six6 (.head _)) rfl rfl (by kernel_rfl)) rfl ⟨⟨.slice ao acc.length c, ka, kc, rfl, ?_, (RF.out.kid (b.kids, _) (.head _)).mono (fun k h _ => h.1)⟩, RF.out.pat, RF.out.tch⟩
          refine (ParamsAt.own O8.out).keep (fun k hk _ => by omega) (fun k hk hl => ?_)
          iterate 16 refine (Below.heap_setCell _ ⟨_, _, none⟩ _ k (by dsimp only; omega)).trans ?_
          rfl
        | false =>
          have hr2 : PM.bind (PM.bind (if 0 < acc.length then mustP en [[44]] else PM.pure ()) (fun _ => PM.bind (paramP en) fun x => takesP en k (acc ++ [x]))) (fun t => PM.bind (runP en m .block) fun b => PM.pure ⟨x.1, g, t, b, x.2⟩) s' = some r := by
            rw [← hr]
            refine PM.bind_congr ?_
            simp only [takesP, ha, Bool.false_eq_true, if_false]
          rw [PM.assoc] at hr2
          simp only [PM.assoc_fun] at hr2
          have HA := Lib.hid ha
          have hln : (acc.length : Int) ≤ 9223372036854775807 := by omega
          have hm := Lib.hid (may_no wr pB en s' ⟨#[41]⟩ _ rfl RR.out.pat ha)
          clear hr ha HRn
          by_cases h1 : 0 < acc.length
          · have hb : decide (0 < (acc.length : Int)) = true := decide_eq_true (by omega)
            have hbN : decide (0 < acc.length) = true := decide_eq_true h1
            rw [if_pos h1] at hr2
            have HR1 := Lib.hid hr2
            clear hr2 h1
            go_wp2_with fail
            refine hm.out.mono ?_
            rintro e w0 ⟨rfl, rfl⟩
            go_wp2_with fail
            refine RR.out.mustT HR1.out rfl rfl (fun fl w' e ht => ?_) (fun s1 w1 hr1 hl1 R1 T1 => ?_)
            · subst e; go_wp2_with fail; exact ⟨rfl, rfl, ht⟩
            have HL1 : s1.ws.length ≤ s'.ws.length := Nat.le_of_lt hl1
            have HR2 := Lib.hid hr1
            have O1 := Lib.hid (own_touch OO.out T1.out (fun k hk => by omega))
            clear hr1
            have hne2 : ∀ q, q ≤ w.heap.size + 1 → some q ≠ (Value.slice ao acc.length c).ownBlock := fun q hq e => by have := (O1.out.lt q e.symm).1; omega
            obtain ⟨i0, hi0, hz0, hz1, hz2⟩ := info_of param_info
            have b1 := R1.out.six6 (.head _)
            obtain ⟨m0, m1, m2, m3, m4, m5, m6, m7, m8, m9, mf, ml⟩ := b1.ten
            have m2a : ∀ o, (w1.alloc o).cell? ⟨w.heap.size + 1, 2, none⟩ = some (.slice ao acc.length c) := fun o => (b1.alloc o).cell 2
            clear b1
            go_wp2_with fail
            go_region_law (first
              | (go_simp; go_at_call 71; go_loud (refine bind_call HR2.out (fun r1 h1 => param_any w1.drew pB en s1 r1 R1.out.drew.pat h1) (fun fl w' e ht => by subst e; go_wp2_with fail; exact ⟨rfl, rfl, Tch.trans R1.out.drew.tch ht⟩) ?_; rintro y s2 e w2 hr2 h1 rfl hp2 ht2; have R2 := Lib.hid (R1.out.drew.call hp2 ht2); have O2 := Lib.hid (own_touch (W := w1.drew) O1.out.drew ht2 (fun k hk => by omega)); have b2 := R2.out.six6 (.head _); have q2 : w2.cell? ⟨w.heap.size + 1, 2, none⟩ = some (.slice ao acc.length c) := b2.cell 2; have q2a : ∀ o, (w2.alloc o).cell? ⟨w.heap.size + 1, 2, none⟩ = some (.slice ao acc.length c) := fun o => (b2.alloc o).cell 2; have hl2 := ln_param en _ _ _ h1; have HR3 := Lib.hid hr2; have hz2' := b2.lt; clear hr2 h1 hp2 ht2 b2))
              | (go_loud (refine step_append_lies _ rfl _ _ 47 rfl (w.heap.size + 1 + 1) 104 i0 (.agg #[.string ⟨#[]⟩, .string ⟨#[]⟩, .int .i64 0]) 3 40 Tryz.underlying47 hi0 hz0 hz1 hz2 rfl (by decide) (.slice ao acc.length c) acc.length _ (by rfl) (O2.out.alloc _) ⟨w2.heap.size, 0, none⟩ 1 1 (pcells y) (by rfl) (by rfl) (news_at _ _ (pcells y)) (by simp [pcells, Value.oneCell']) (by omega) (by unfold maxLen; omega) (by omega) (by simp; omega) _ (by rfl) ?_; intro g0 cap wa hoa hga hata hla; have ba := ((R2.out.six6 (.head _)).alloc _).kept hga (hne2 _ (Nat.le_refl _)); have ca2 := ba.cell 2; have caf := ba.frozen 2; have HOA := Lib.hid hoa; have HGA := Lib.hid hga; have HATA := Lib.hid hata; have BA := Lib.hid ba; clear hoa hga hata ba)))
            all_goals
              go_wp2_with fail
              go_roundg k
              case measure => omega
              case rel =>
                have hlen3 : (acc ++ [y]).length = acc.length + 1 := by simp
                have hown : ∀ q, some q = (Value.slice ao acc.length c).ownBlock → w.heap.size + 1 + 1 ≤ q ∧ q < w2.heap.size := fun q e => O2.out.lt q e.symm
                have R3 := R2.out.alloc0 (.cells #[.string (mkB y.name), .string (mkB y.type), .int .i64 y.at_] 104)
                have R4 := R3.grown HGA.out (fun q e => (hown q e).1) (by intro x hx; simp only [List.mem_cons, List.not_mem_nil, or_false] at hx; rcases hx with rfl | rfl <;> (dsimp only; omega)) (fun q e => by have := (hown q e).2; simp; omega)
                have R5 := R4.set (one_ne hne) 2 (.slice (some ⟨g0, 0, none⟩) (acc.length + 1) cap)
                simp only [List.setIfInBounds_toArray, List.set_cons_zero, List.set_cons_succ] at R5
                refine ⟨.slice (some ⟨g0, 0, none⟩) (acc.length + 1) cap, acc ++ [y], s2, by omega, Lib.hid R5, Lib.hid ?_, HR3, by rw [hlen3]; omega⟩
                rw [hlen3]
                have ho3 : World.ownsRow _ _ _ _ _ _ _ := own_touch HOA.out ((Touch.refl (fun i => i = w.heap.size + 1) wa).setCell (p := ⟨w.heap.size + 1, 2, none⟩) (.inl rfl) (.slice (some ⟨g0, 0, none⟩) (acc.length + 1) cap)) (fun k hk => by omega)
                simpa [pcells] using ho3
          · have hb : decide (0 < (acc.length : Int)) = false := decide_eq_false (by omega)
            have hbN : decide (0 < acc.length) = false := decide_eq_false h1
            rw [if_neg h1] at hr2
            obtain ⟨s1, hs1⟩ : ∃ s1, s1 = s' := ⟨_, rfl⟩
            have HR2 : Hid (PM.bind (paramP en) (fun y => PM.bind (takesP en k (acc ++ [y])) (fun t => PM.bind (runP en m .block) fun b => PM.pure ⟨x.1, g, t, b, x.2⟩)) s1 = some r) := Lib.hid (by rw [hs1]; exact hr2)
            have HL1 : s1.ws.length ≤ s'.ws.length := by rw [hs1]; exact Nat.le_refl _
            have hm2 : Hid (Calls Tryz.prog 70 #[.pointer (some ⟨pB, 0, none⟩), .string ⟨#[41]⟩] wr fun e w' => e = .returned (.bool false) ∧ Hid (Rd pB en w [(w.heap.size + 1, 81, #[.string (mkB x.1), .string (mkB g), .slice ao acc.length c, .int .i64 0, .string ⟨#[]⟩, .string ⟨#[]⟩, .int .i64 0, .slice none 0 0, .int .i64 0, .int .i64 x.2]), (w.heap.size, 81, #[.string ⟨#[]⟩, .string ⟨#[]⟩, .slice none 0 0, .int .i64 0, .string ⟨#[]⟩, .string ⟨#[]⟩, .int .i64 0, .slice none 0 0, .int .i64 0, .int .i64 0])] [] w' s1) ∧ Hid (w'.ownsRow (w.heap.size + 1 + 1) 104 3 (.slice ao acc.length c) acc.length (acc.flatMap pcells))) := Lib.hid (hm.out.mono fun e w' ⟨e1, e2⟩ => ⟨e1, Lib.hid (by rw [hs1, ← e2]; exact RR.out), Lib.hid (by rw [← e2]; exact OO.out)⟩)
            clear hr2 h1 hs1 hm RR OO n0 n1 n2 n3 n4 n5 n6 n7 n8 n9 nf nl
            go_wp2_with fail
            refine hm2.out.mono ?_
            rintro e w1 ⟨rfl, R1, O1⟩
            obtain ⟨n0, n1, n2, n3, n4, n5, n6, n7, n8, n9, nf, nl⟩ := (R1.out.six6 (.head _)).ten
            have hne2 : ∀ q, q ≤ w.heap.size + 1 → some q ≠ (Value.slice ao acc.length c).ownBlock := fun q hq e => by have := (O1.out.lt q e.symm).1; omega
            obtain ⟨i0, hi0, hz0, hz1, hz2⟩ := info_of param_info
            have b1 := R1.out.six6 (.head _)
            obtain ⟨m0, m1, m2, m3, m4, m5, m6, m7, m8, m9, mf, ml⟩ := b1.ten
            have m2a : ∀ o, (w1.alloc o).cell? ⟨w.heap.size + 1, 2, none⟩ = some (.slice ao acc.length c) := fun o => (b1.alloc o).cell 2
            clear b1
            go_wp2_with fail
            go_region_law (first
              | (go_simp; go_at_call 71; go_loud (refine bind_call HR2.out (fun r1 h1 => param_any w1.drew pB en s1 r1 R1.out.drew.pat h1) (fun fl w' e ht => by subst e; go_wp2_with fail; exact ⟨rfl, rfl, Tch.trans R1.out.drew.tch ht⟩) ?_; rintro y s2 e w2 hr2 h1 rfl hp2 ht2; have R2 := Lib.hid (R1.out.drew.call hp2 ht2); have O2 := Lib.hid (own_touch (W := w1.drew) O1.out.drew ht2 (fun k hk => by omega)); have b2 := R2.out.six6 (.head _); have q2 : w2.cell? ⟨w.heap.size + 1, 2, none⟩ = some (.slice ao acc.length c) := b2.cell 2; have q2a : ∀ o, (w2.alloc o).cell? ⟨w.heap.size + 1, 2, none⟩ = some (.slice ao acc.length c) := fun o => (b2.alloc o).cell 2; have hl2 := ln_param en _ _ _ h1; have HR3 := Lib.hid hr2; have hz2' := b2.lt; clear hr2 h1 hp2 ht2 b2))
              | (go_loud (refine step_append_lies _ rfl _ _ 47 rfl (w.heap.size + 1 + 1) 104 i0 (.agg #[.string ⟨#[]⟩, .string ⟨#[]⟩, .int .i64 0]) 3 40 Tryz.underlying47 hi0 hz0 hz1 hz2 rfl (by decide) (.slice ao acc.length c) acc.length _ (by rfl) (O2.out.alloc _) ⟨w2.heap.size, 0, none⟩ 1 1 (pcells y) (by rfl) (by rfl) (news_at _ _ (pcells y)) (by simp [pcells, Value.oneCell']) (by omega) (by unfold maxLen; omega) (by omega) (by simp; omega) _ (by rfl) ?_; intro g0 cap wa hoa hga hata hla; have ba := ((R2.out.six6 (.head _)).alloc _).kept hga (hne2 _ (Nat.le_refl _)); have ca2 := ba.cell 2; have caf := ba.frozen 2; have HOA := Lib.hid hoa; have HGA := Lib.hid hga; have HATA := Lib.hid hata; have BA := Lib.hid ba; clear hoa hga hata ba)))
            all_goals
              go_wp2_with fail
              go_roundg k
              case measure => omega
              case rel =>
                have hlen3 : (acc ++ [y]).length = acc.length + 1 := by simp
                have hown : ∀ q, some q = (Value.slice ao acc.length c).ownBlock → w.heap.size + 1 + 1 ≤ q ∧ q < w2.heap.size := fun q e => O2.out.lt q e.symm
                have R3 := R2.out.alloc0 (.cells #[.string (mkB y.name), .string (mkB y.type), .int .i64 y.at_] 104)
                have R4 := R3.grown HGA.out (fun q e => (hown q e).1) (by intro x hx; simp only [List.mem_cons, List.not_mem_nil, or_false] at hx; rcases hx with rfl | rfl <;> (dsimp only; omega)) (fun q e => by have := (hown q e).2; simp; omega)
                have R5 := R4.set (one_ne hne) 2 (.slice (some ⟨g0, 0, none⟩) (acc.length + 1) cap)
                simp only [List.setIfInBounds_toArray, List.set_cons_zero, List.set_cons_succ] at R5
                refine ⟨.slice (some ⟨g0, 0, none⟩) (acc.length + 1) cap, acc ++ [y], s2, by omega, Lib.hid R5, Lib.hid ?_, HR3, by rw [hlen3]; omega⟩
                rw [hlen3]
                have ho3 : World.ownsRow _ _ _ _ _ _ _ := own_touch HOA.out ((Touch.refl (fun i => i = w.heap.size + 1) wa).setCell (p := ⟨w.heap.size + 1, 2, none⟩) (.inl rfl) (.slice (some ⟨g0, 0, none⟩) (acc.length + 1) cap)) (fun k hk => by omega)
                simpa [pcells] using ho3
end Go.Proofs.YtcaigcmbgihhkaaGreatDoor
