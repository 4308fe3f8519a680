/-
  Part of a proof: ParAC, ParAD.
-/
import Derived.Test.YtcaigcmbgihhkaaGreatDoorZParAA
namespace Go.Proofs.YtcaigcmbgihhkaaGreatDoor
open Go Go.RowKit Go.Shelf
set_option linter.unusedVariables false
set_option linter.unusedSimpArgs false
attribute [local go_sem] Oper.semAt_some
def mcells (m : MethodD) (tv kv : Value) : List Value := [.string (mkB m.name), .string (mkB m.gives), tv, .int .i64 m.body.op, .string (mkB m.body.text), .string (mkB m.body.type), .int .i64 m.body.n, kv, .int .i64 m.body.at_, .int .i64 m.at_]
def MethodIn (ok : Nat → Prop) (W : World) (m : MethodD) (tv kv : Value) : Prop := ParamsAt ok W m.takes tv ∧ KidsAt ok W m.body.kids kv
theorem MethodIn.keep {ok ok' : Nat → Prop} {W W' : World} {m : MethodD} {tv kv : Value} (h : MethodIn ok W m tv kv) (hok : ∀ k, ok k → k < W.heap.size → ok' k) (hw : ∀ k, ok k → k < W.heap.size → W'.heap[k]? = W.heap[k]?) : MethodIn ok' W' m tv kv := ⟨h.1.keep hok hw, h.2.keep hok hw⟩
def MethodsAt (ok : Nat → Prop) (W : World) (l : List MethodD) (v : Value) : Prop :=
  ∃ ao c, v = .slice ao l.length c ∧ l.length ≤ c ∧ c ≤ maxLen ∧ ∃ tv kv : Nat → Value, (∀ j m, l[j]? = some m → MethodIn ok W m (tv j) (kv j)) ∧ (l ≠ [] → ∃ g o, ao = some ⟨g, o, none⟩ ∧ ok g ∧ ∀ j m i u, l[j]? = some m → (mcells m (tv j) (kv j))[i]? = some u → W.cell? ⟨g, o + j * 10 + i, none⟩ = some u)
theorem MethodsAt.form {ok : Nat → Prop} {W : World} {l : List MethodD} {v : Value} (h : MethodsAt ok W l v) : ∃ ao c, v = .slice ao l.length c := by
  obtain ⟨ao, c, h, _⟩ := h
  exact ⟨ao, c, h⟩
theorem MethodsAt.keep {ok ok' : Nat → Prop} {W W' : World} {l : List MethodD} {v : Value} (h : MethodsAt ok W l v) (hok : ∀ k, ok k → k < W.heap.size → ok' k) (hw : ∀ k, ok k → k < W.heap.size → W'.heap[k]? = W.heap[k]?) : MethodsAt ok' W' l v := by
  obtain ⟨ao, c, h1, h2, h3, tv, kv, h4, h5⟩ := h
  refine ⟨ao, c, h1, h2, h3, tv, kv, fun j m hm => (h4 j m hm).keep hok hw, fun hne => ?_⟩
  obtain ⟨g, o, e, hg, hc⟩ := h5 hne
  have hgl : g < W.heap.size := by
    cases l with
    | nil => exact absurd rfl hne
    | cons x t => exact cell_lt (hc 0 x 0 _ rfl rfl)
  exact ⟨g, o, e, hok g hg hgl, fun j m i u hm hu => (World.cell?_of_block (a := ⟨g, o + j * 10 + i, none⟩) (hw g hg hgl)).trans (hc j m i u hm hu)⟩
def MethodsOw (ok : Nat → Prop) (n0 : Nat) (W : World) (v : Value) (l : List MethodD) : Prop := ∃ ps : List (MethodD × Value × Value), ps.map Prod.fst = l ∧ W.ownsRow n0 81 10 v l.length (ps.flatMap fun p : MethodD × Value × Value => mcells p.1 p.2.1 p.2.2) ∧ ∀ p ∈ ps, MethodIn (fun k => ok k ∧ some k ≠ v.ownBlock) W p.1 p.2.1 p.2.2
theorem MethodsOw.nil (ok : Nat → Prop) (n0 : Nat) (W : World) : MethodsOw ok n0 W (.slice none 0 0) [] := ⟨[], rfl, World.ownsRow_nil _ _ _ _, fun p h => by simp at h⟩
theorem MethodsOw.shut {ok : Nat → Prop} {n0 : Nat} {W : World} {v : Value} {l : List MethodD} (h : MethodsOw ok n0 W v l) (hok : ∀ g, v.ownBlock = some g → ok g) : MethodsAt ok W l v := by
  obtain ⟨ps, rfl, ho, hk⟩ := h
  have hin : ∀ j m, (ps.map Prod.fst)[j]? = some m → ∃ p : MethodD × Value × Value, ps[j]? = some p ∧ p.1 = m := fun j m hm => by
    rw [List.getElem?_map, Option.map_eq_some_iff] at hm
    exact hm
  rcases ho.2 with ⟨rfl, hn⟩ | ⟨g, cap, cur, rfl, hg, hb, h1, h2, h3, h4⟩
  · have hps : ps = [] := by
      cases ps with
      | nil => rfl
      | cons p t => simp at hn
    subst hps
    exact ⟨none, 0, rfl, Nat.le_refl _, Nat.zero_le _, fun _ => .slice none 0 0, fun _ => .slice none 0 0, fun j m hm => by simp at hm, fun h => absurd rfl h⟩
  · refine ⟨some ⟨g, 0, none⟩, cap, rfl, h1, h2, fun j => match ps[j]? with | some p => p.2.1 | none => .slice none 0 0, fun j => match ps[j]? with | some p => p.2.2 | none => .slice none 0 0, fun j m hm => ?_, fun _ => ⟨g, 0, rfl, hok g rfl, fun j m i u hm hu => ?_⟩⟩
    · obtain ⟨p, hp, rfl⟩ := hin j m hm
      simp only [hp]
      exact (hk p (List.mem_of_getElem? hp)).keep (fun k h _ => h.1) (fun _ _ _ => rfl)
    · obtain ⟨p, hp, rfl⟩ := hin j m hm
      simp only [hp] at hu
      have hb' : Blk W g 81 cur := hb
      have hj : j < ps.length := (List.getElem?_eq_some_iff.1 hp).1
      have hi : i < 10 := by have := (List.getElem?_eq_some_iff.1 hu).1; simpa [mcells] using this
      rw [hb'.cell, Nat.zero_add, take_get h4 (j * 10 + i) (by rw [List.length_map]; omega), flatMap_get (fun p : MethodD × Value × Value => mcells p.1 p.2.1 p.2.2) 10 (fun p => rfl) ps j i p hp hi]
      exact hu
theorem MethodsOw.appended {ok : Nat → Prop} {n0 : Nat} {w1 w3 : World} {v v' tv kv : Value} {l : List MethodD} {m : MethodD} {tmp : Obj} {ps : List (MethodD × Value × Value)} (h1 : ps.map Prod.fst = l) (hk : ∀ p ∈ ps, MethodIn (fun k => ok k ∧ some k ≠ v.ownBlock) w1 p.1 p.2.1 p.2.2)
    (hn : MethodIn (fun k => ok k ∧ some k ≠ v.ownBlock) w1 m tv kv) (ho : w3.ownsRow n0 81 10 v' (l.length + 1) ((ps.flatMap fun p : MethodD × Value × Value => mcells p.1 p.2.1 p.2.2) ++ mcells m tv kv)) (hg : (w1.alloc tmp).grownBy w3 v.ownBlock)
    (hat : v'.ownBlock = v.ownBlock ∨ v'.ownBlock = some (w1.alloc tmp).heap.size) : MethodsOw ok n0 w3 v' (l ++ [m]) := by
  have hb : ∀ k, k < w1.heap.size → some k ≠ v.ownBlock → w3.heap[k]? = w1.heap[k]? := fun k hl hne => (hg.block k (by simp; omega) hne).trans (Below.heap_alloc w1 tmp k hl)
  have hok : ∀ k, (ok k ∧ some k ≠ v.ownBlock) → k < w1.heap.size → (ok k ∧ some k ≠ v'.ownBlock) := fun k h hl => ⟨h.1, by
    rcases hat with e | e
    · rw [e]; exact h.2
    · rw [e]; simp; omega⟩
  refine ⟨ps ++ [(m, tv, kv)], by rw [List.map_append, h1]; rfl, by simpa using ho, fun p hp => ?_⟩
  rcases List.mem_append.1 hp with hp | hp
  · exact (hk p hp).keep hok (fun k hk hl => hb k hl hk.2)
  · simp only [List.mem_singleton] at hp
    subst hp
    exact hn.keep hok (fun k hk hl => hb k hl hk.2)
theorem MethodsOw.keep {ok ok' : Nat → Prop} {n0 : Nat} {W W' : World} {v : Value} {l : List MethodD} (h : MethodsOw ok n0 W v l) (hok : ∀ k, ok k → k < W.heap.size → ok' k) (hw : ∀ k, ok k → k < W.heap.size → W'.heap[k]? = W.heap[k]?) (ho : ∀ g, v.ownBlock = some g → W'.heap[g]? = W.heap[g]?) : MethodsOw ok' n0 W' v l := by
  obtain ⟨ps, h1, h2, h3⟩ := h
  refine ⟨ps, h1, ⟨h2.1, ?_⟩, fun p hp => (h3 p hp).keep (fun k hk hl => ⟨hok k hk.1 hl, hk.2⟩) (fun k hk hl => hw k hk.1 hl)⟩
  rcases h2.2 with h | ⟨g, cap, cur, e, hg, hb, r⟩
  · exact .inl h
  · exact .inr ⟨g, cap, cur, e, hg, (ho g (by rw [e]; rfl)).trans hb, r⟩
theorem method_info : (Tryz.prog.info? 81).map (fun i => (i.zero, i.size, i.bytes)) = some (some (.agg #[.string ⟨#[]⟩, .string ⟨#[]⟩, .slice none 0 0, .int .i64 0, .string ⟨#[]⟩, .string ⟨#[]⟩, .int .i64 0, .slice none 0 0, .int .i64 0, .int .i64 0]), 10, 144) := by kernel_rfl
theorem rows_ne {W : World} {n0 sz sz' n n' : Nat} {T T' : TypeId} {v v' : Value} {cs cs' : List Value} (h : W.ownsRow n0 T sz v n cs) (h' : W.ownsRow n0 T' sz' v' n' cs') (hT : T ≠ T') : ∀ g, v.ownBlock = some g → v'.ownBlock ≠ some g := fun g e e' => by
  rcases h.2 with ⟨rfl, _⟩ | ⟨g1, _, cur, rfl, _, hb, _⟩
  · simp [Value.ownBlock] at e
  · rcases h'.2 with ⟨rfl, _⟩ | ⟨g2, _, cur', rfl, _, hb', _⟩
    · simp [Value.ownBlock] at e'
    · simp only [Value.ownBlock, Option.some.injEq] at e e'
      subst e
      subst e'
      exact Blk.ne (show Blk W g2 T cur from hb) (show Blk W g2 T' cur' from hb') hT rfl
theorem Blk.five {W : World} {q : Nat} {T : TypeId} {a b c d e : Value} (H : Blk W q T #[a, b, c, d, e]) :
    W.cell? ⟨q, 0, none⟩ = some a ∧ W.cell? ⟨q, 1, none⟩ = some b ∧ W.cell? ⟨q, 2, none⟩ = some c ∧ W.cell? ⟨q, 3, none⟩ = some d ∧ W.cell? ⟨q, 4, none⟩ = some e ∧ (∀ i, W.frozen? ⟨q, i, none⟩ = false) ∧ q < W.heap.size :=
  ⟨H.cell 0, H.cell 1, H.cell 2, H.cell 3, H.cell 4, H.frozen, H.lt⟩
theorem mn_param (en : Int) : Mn (paramP en) := Mn.bind (mn_whole en) (fun d => Mn.bind (mn_name en) (fun x => Mn.pure _))
theorem mn_takes (en : Int) : ∀ k acc, Mn (takesP en k acc)
  | 0, acc => fun s a s' h => by simp [takesP] at h
  | k + 1, acc => by
    refine mn_ite (mn_okn _) (Mn.bind ?_ (fun _ => Mn.bind (mn_param en) (fun x => mn_takes en k _)))
    split
    · exact mn_must en _
    · exact Mn.pure _
theorem ln_method (en : Int) (k : Nat) : Ln (methodP en k) := by
  unfold methodP
  refine Ln.bindR ?_ (fun g => Ln.bindL (ln_name en) (fun x => Mn.bind (mn_must en _) (fun _ => Mn.bind (mn_takes en k []) (fun t => Mn.bind (mn_run en k _) (fun b => Mn.pure _)))))
  exact mn_ite (mn_okn _) (mn_whole en)
end Go.Proofs.YtcaigcmbgihhkaaGreatDoor
namespace Go.Proofs.YtcaigcmbgihhkaaGreatDoor
open Go Go.RowKit Go.Shelf
set_option linter.unusedVariables false
set_option linter.unusedSimpArgs false
attribute [local go_sem] Oper.semAt_some
def ClassQ (w : World) (a : ClassD) (e : Ending) (w' : World) : Prop := ∃ fa fc ma mc, e = .returned (.agg #[.string (mkB a.name), .string (mkB a.super), .slice fa a.fields.length fc, .slice ma a.methods.length mc, .int .i64 a.at_]) ∧ ParamsAt (fun k => w.heap.size ≤ k) w' a.fields (.slice fa a.fields.length fc) ∧ MethodsAt (fun k => w.heap.size ≤ k) w' a.methods (.slice ma a.methods.length mc)
set_option maxRecDepth 100000 in
set_option maxHeartbeats 16000000 in
theorem class_any (m : Nat) (HB : NTC m .block 106) (w : World) (pB : Nat) (en : Int) (s : PSt) (r : Except Fault (ClassD × PSt)) (h : PAt w pB en s) (hr : classP en m s = some r) :
    Calls Tryz.prog 35 #[.pointer (some ⟨pB, 0, none⟩)] w (PEnd pB en w (ClassQ w) r) := by
  have hpl := h.lt
  have RA := Lib.hid ((Rd.start h).alloc 50 #[.string ⟨#[]⟩, .string ⟨#[]⟩, .slice none 0 0, .slice none 0 0, .int .i64 0])
  unfold classP at hr
  have HR := Lib.hid hr
  clear h hr
  go_enter Tryz.func35, Tryz.ntmps35
  go_wp2_with fail
  refine RA.out.must HR.out (by simp) rfl (fun fl w' e ht => ?_) (fun s2 w2 hr2 hl2 R2 => ?_)
  · subst e; go_wp2_with fail; exact ⟨rfl, rfl, ht⟩
  have HR2 := Lib.hid hr2
  have hw2 : w.heap.size < w2.heap.size := (R2.out.six6 (.head _)).lt
  have hne : w.heap.size ≠ w2.heap.size := by omega
  have R3 := Lib.hid (R2.out.alloc 50 #[.string ⟨#[]⟩, .string ⟨#[79, 98, 106, 101, 99, 116]⟩, .slice none 0 0, .slice none 0 0, .int .i64 0])
  clear hr2
  go_wp2_with fail
  refine R3.out.name HR2.out (fun fl w' e ht => ?_) (fun x s4 w4 hr4 hl4 R4 => ?_)
  · subst e; go_wp2_with fail; exact ⟨rfl, rfl, ht⟩
  have HR4 := Lib.hid hr4
  obtain ⟨n0, n1, n2, n3, n4, nf, nl⟩ := (R4.out.six6 (.head _)).five
  have R5 := Lib.hid ((R4.out.set (one_ne hne) 0 (.string (mkB x.1))).set (one_ne hne) 4 (.int .i64 x.2))
  simp only [List.setIfInBounds_toArray, List.set_cons_zero, List.set_cons_succ] at R5
  clear hr4
  have hr := HR4.out
  cases ha : aheadP s4 0 [101, 120, 116, 101, 110, 100, 115] with
  | true =>
    have hr2 : PM.bind (nameP en) (fun y => PM.bind (mustP en [[123]]) (fun _ => PM.bind (membersP en m m [] []) (fun mm => PM.pure (⟨x.1, y.1, mm.1, mm.2, x.2⟩ : ClassD)))) (nextP s4) = some r := by
      rw [PM.bind, if_pos ha] at hr
      rw [← hr]
      unfold PM.bind PM.pure
      cases nameP en (nextP s4) with
      | none => rfl
      | some q => cases q <;> rfl
    have HA := Lib.hid ha
    have HR5 := Lib.hid hr2
    clear hr hr2 ha HR4
    go_wp2_with fail
    refine (R5.out.mayY (b := ⟨#[101, 120, 116, 101, 110, 100, 115]⟩) rfl HA.out).mono ?_
    rintro e wa ⟨rfl, Ra⟩
    go_wp2_with fail
    refine Ra.out.name HR5.out (fun fl w' e ht => ?_) (fun y sb wb hrb hlb Rb => ?_)
    · subst e; go_wp2_with fail; exact ⟨rfl, rfl, ht⟩
    obtain ⟨u, ya⟩ := y
    dsimp only at hrb ⊢
    have HRb := Lib.hid hrb
    obtain ⟨d0, d1, d2, d3, d4, df, dl⟩ := (Rb.out.six6 (.head _)).five
    have Rc := Lib.hid (Rb.out.set (one_ne hne) 1 (.string (mkB u)))
    simp only [List.setIfInBounds_toArray, List.set_cons_zero, List.set_cons_succ] at Rc
    clear hrb
    go_wp2_with fail
    refine Rc.out.must HRb.out (by simp [World.setCell]) rfl (fun fl w' e ht => ?_) (fun s6 w6 hr6 hl6 R6 => ?_)
    · subst e; go_wp2_with fail; exact ⟨rfl, rfl, ht⟩
    have HR6 := Lib.hid hr6
    have hl0 : s6.ws.length ≤ 1000000 := R6.out.pat.2.1
    have O6 := Lib.hid (World.ownsRow_nil w6 (w2.heap.size + 1) 104 3)
    have M6 := Lib.hid (MethodsOw.nil (fun k => w2.heap.size + 1 ≤ k ∧ some k ≠ (Value.slice none 0 0).ownBlock) (w2.heap.size + 1) w6)
    clear hr6
    go_wp2_with fail
    go_loopg [] m (fun k wr => ∃ (fv mv : Value) (fs : List ParamD) (ms : List MethodD) (s' : PSt), k ≤ m ∧ Hid (Rd pB en w [(w2.heap.size, 50, #[.string (mkB x.1), .string (mkB u), fv, mv, .int .i64 x.2]), (w.heap.size, 50, #[.string ⟨#[]⟩, .string ⟨#[]⟩, .slice none 0 0, .slice none 0 0, .int .i64 0])] [] wr s') ∧ Hid (wr.ownsRow (w2.heap.size + 1) 104 3 fv fs.length (fs.flatMap pcells)) ∧ Hid (MethodsOw (fun k => w2.heap.size + 1 ≤ k ∧ some k ≠ fv.ownBlock) (w2.heap.size + 1) wr mv ms) ∧ Hid (PM.bind (membersP en m k fs ms) (fun mm : List ParamD × List MethodD => PM.pure (⟨x.1, u, mm.1, mm.2, x.2⟩ : ClassD)) s' = some r) ∧ fs.length + s'.ws.length ≤ 1000000 ∧ ms.length + s'.ws.length ≤ 1000000)
    case atStart => exact ⟨.slice none 0 0, .slice none 0 0, [], [], s6, Nat.le_refl _, R6, O6, M6, HR6, by simpa using hl0, by simpa using hl0⟩
    case round =>
      clear R6 O6 M6 HR6 hl0 HR
      obtain ⟨fv, mv, fs, ms, s', hk, RR, OO, MM, HRn, hlf, hlm⟩ := hrel
      obtain ⟨b0, b1, b2, b3, b4, bf, bl_⟩ := (RR.out.six6 (.head _)).five
      obtain ⟨ps, hps, hmo, hmk⟩ := MM.out
      obtain ⟨fa, fc, rfl⟩ := own_form OO.out
      obtain ⟨ma, mc, rfl⟩ := own_form hmo
      have HPS := Lib.hid hps
      have HMO := Lib.hid hmo
      have HMK := Lib.hid hmk
      clear hps hmo hmk
      cases gk with
      | zero => exact absurd HRn.out (by simp [membersP, PM.bind])
      | succ k =>
        have hr := HRn.out
        cases ha : aheadP s' 0 [125] with
        | true =>
          rw [membersP, PM.bind, if_pos ha] at hr
          have HA := Lib.hid ha
          obtain rfl : r = .ok (⟨x.1, u, fs, ms, x.2⟩, nextP s') := by simpa [PM.pure] using hr.symm
          clear hr ha HRn
          go_wp2_with fail
          refine (may_yes wr pB en s' ⟨#[125]⟩ _ rfl RR.out.pat HA.out).mono ?_
          rintro e w7 ⟨rfl, hp7, ht7⟩
          have R7 := Lib.hid (RR.out.call hp7.out ht7.out)
          have O7 := Lib.hid (own_touch OO.out ht7.out (fun k hk => by omega))
          have M7 := Lib.hid (MM.out.keep (W' := w7) (ok' := fun k => w2.heap.size + 1 ≤ k) (fun k h _ => h.1) (fun k h hl => ht7.out.block k hl (by have := h.1; omega)) (fun g e => ht7.out.block g (HMO.out.lt g e).2 (by have := (HMO.out.lt g e).1; omega)))
          obtain ⟨c0, c1, c2, c3, c4, cf, cl⟩ := (R7.out.six6 (.head _)).five
          obtain ⟨r0, r1, r2, r3, r4, rf, rl⟩ := (R7.out.six6 (.tail _ (.head _))).five
          have hne' : w2.heap.size ≠ w.heap.size := by omega
          have RF := Lib.hid (((((R7.out.swap.set (one_ne hne') 0 (.string (mkB x.1))).set (one_ne hne') 1 (.string (mkB u))).set (one_ne hne') 2 (.slice fa fs.length fc)).set (one_ne hne') 3 (.slice ma ms.length mc)).set (one_ne hne') 4 (.int .i64 x.2))
          simp only [List.setIfInBounds_toArray, List.set_cons_zero, List.set_cons_succ] at RF
          go_wp2_with fail
          refine bodyPost_ret (results_cell_row (fn := Tryz.f35) rfl _ _ w.heap.size 50 _ (0, 0) _ rfl (RF.out.six6 (.head _)) rfl rfl (by kernel_rfl)) rfl ⟨⟨fa, fc, ma, mc, rfl, ?_, ?_⟩, RF.out.pat, RF.out.tch⟩
          · refine (ParamsAt.own O7.out).keep (fun k hk _ => by omega) (fun k hk hl => ?_)
            iterate 5 refine (Below.heap_setCell _ ⟨_, _, none⟩ _ k (by dsimp only; omega)).trans ?_
            rfl
          · refine (M7.out.shut (fun g e => (HMO.out.lt g e).1)).keep (fun k hk _ => by omega) (fun k hk hl => ?_)
            iterate 5 refine (Below.heap_setCell _ ⟨_, _, none⟩ _ k (by dsimp only; omega)).trans ?_
            rfl
        | false =>
          have hn := Lib.hid ha
          have hlnf : fs.length ≤ 1000000 := by omega
          have hlnm : ms.length ≤ 1000000 := by omega
          have hownf : ∀ q, some q = (Value.slice fa fs.length fc).ownBlock → w2.heap.size + 1 ≤ q ∧ q < wr.heap.size := fun q e => OO.out.lt q e.symm
          have hownm : ∀ q, some q = (Value.slice ma ms.length mc).ownBlock → w2.heap.size + 1 ≤ q ∧ q < wr.heap.size := fun q e => HMO.out.lt q e.symm
          have happ : ∀ g, (Value.slice fa fs.length fc).ownBlock = some g → (Value.slice ma ms.length mc).ownBlock ≠ some g := rows_ne OO.out HMO.out (by decide)
          have HAPP := Lib.hid happ
          clear happ
          go_wp2_with fail
          refine (may_no wr pB en s' ⟨#[125]⟩ _ rfl RR.out.pat hn.out).mono ?_
          rintro e w0 ⟨rfl, rfl⟩
          cases hf : aheadP s' 0 [102, 105, 101, 108, 100] with
          | true =>
            have e1 : membersP en m (k + 1) fs ms s' = PM.bind (paramP en) (fun x => PM.bind (mustP en [[59]]) fun _ => membersP en m k (fs ++ [x]) ms) (nextP s') := by rw [membersP]; dsimp only; rw [if_neg (by rw [ha]; decide), if_pos hf]
            have hr2 : PM.bind (PM.bind (paramP en) (fun x => PM.bind (mustP en [[59]]) fun _ => membersP en m k (fs ++ [x]) ms)) (fun mm : List ParamD × List MethodD => PM.pure (⟨x.1, u, mm.1, mm.2, x.2⟩ : ClassD)) (nextP s') = some r := by
              rw [PM.bind, e1] at hr
              exact hr
            simp only [PM.assoc_fun] at hr2
            have HF := Lib.hid hf
            have HR1 := Lib.hid hr2
            clear hr hr2 e1 ha hf HRn b0 b1 b2 b3 b4 bf bl_
            go_wp2_with fail
            refine (may_yes wr pB en s' ⟨#[102, 105, 101, 108, 100]⟩ _ rfl RR.out.pat HF.out).mono ?_
            rintro e w1 ⟨rfl, hp1, ht1⟩
            have R1 := Lib.hid (RR.out.call hp1.out ht1.out)
            have O1 := Lib.hid (own_touch OO.out ht1.out (fun k hk => by omega))
            have HL1 : (nextP s').ws.length ≤ s'.ws.length := next_le s'
            have bb := R1.out.six6 (.head _)
            obtain ⟨b0, b1, b2, b3, b4, bf, bl_⟩ := bb.five
            have b2a : ∀ o, (w1.alloc o).cell? ⟨w2.heap.size, 2, none⟩ = some (.slice fa fs.length fc) := fun o => (bb.alloc o).cell 2
            obtain ⟨i0, hi0, hz0, hz1, hz2⟩ := info_of param_info
            have hne2 : ∀ q, q ≤ w2.heap.size → some q ≠ (Value.slice fa fs.length fc).ownBlock := fun q hq e => by have := (hownf q e).1; omega
            clear bb
            go_wp2_with fail
            go_region_law (first
              | (go_simp; go_at_call 71; go_loud (refine bind_call HR1.out (fun r1 h1 => param_any w1.drew pB en _ r1 R1.out.drew.pat h1) (fun fl w' e ht => by subst e; go_wp2_with fail; exact ⟨rfl, rfl, Tch.trans R1.out.drew.tch ht⟩) ?_; rintro y s3 w3e w3 hr3 h1 rfl hp3 ht3; have R3 := Lib.hid (R1.out.drew.call hp3 ht3); have O3 := Lib.hid (own_touch (W := w1.drew) O1.out.drew ht3 (fun k hk => by omega)); have T3 : Hid (Tch pB wr w3) := Lib.hid (Tch.trans ht1.out.drew ht3); have b3' := R3.out.six6 (.head _); have q2 : w3.cell? ⟨w2.heap.size, 2, none⟩ = some (.slice fa fs.length fc) := b3'.cell 2; have q2a : ∀ o, (w3.alloc o).cell? ⟨w2.heap.size, 2, none⟩ = some (.slice fa fs.length fc) := fun o => (b3'.alloc o).cell 2; have hl3 := ln_param en _ _ _ h1; have HR3 := Lib.hid hr3; have hz3' := b3'.lt; clear hr3 h1 hp3 ht3 b3'))
              | (go_loud (refine step_append_lies _ rfl _ _ 47 rfl (w2.heap.size + 1) 104 i0 (.agg #[.string ⟨#[]⟩, .string ⟨#[]⟩, .int .i64 0]) 3 40 Tryz.underlying47 hi0 hz0 hz1 hz2 rfl (by decide) (.slice fa fs.length fc) fs.length _ (by rfl) (O3.out.alloc _) ⟨w3.heap.size, 0, none⟩ 1 1 (pcells y) (by rfl) (by rfl) (news_at _ _ (pcells y)) (by simp [pcells, Value.oneCell']) (by omega) (by unfold maxLen; omega) (by omega) (by simp; omega) _ (by rfl) ?_; intro g0 cap wa hoa hga hata hla; have ba := ((R3.out.six6 (.head _)).alloc _).kept hga (hne2 _ (Nat.le_refl _)); have ca2 := ba.cell 2; have caf := ba.frozen 2; have HOA := Lib.hid hoa; have HGA := Lib.hid hga; have HATA := Lib.hid hata; clear hoa hga hata ba)))
            all_goals
              have hlen3 : (fs ++ [y]).length = fs.length + 1 := by simp
              have hszw := T3.out.size
              have Ra := (R3.out.alloc0 (.cells #[.string (mkB y.name), .string (mkB y.type), .int .i64 y.at_] 104)).grown HGA.out (fun q e => (hownf q e).1) (by intro x hx; simp only [List.mem_cons, List.not_mem_nil, or_false] at hx; rcases hx with rfl | rfl <;> (dsimp only; omega)) (fun q e => by have := (hownf q e).2; simp; omega)
              have Rb := Ra.set (one_ne hne) 2 (.slice (some ⟨g0, 0, none⟩) (fs.length + 1) cap)
              simp only [List.setIfInBounds_toArray, List.set_cons_zero, List.set_cons_succ] at Rb
              have RB := Lib.hid Rb
              have tset : Touch (fun i => i = w2.heap.size) wa (wa.setCell ⟨w2.heap.size, 2, none⟩ (.slice (some ⟨g0, 0, none⟩) (fs.length + 1) cap)) := (Touch.refl (fun i => i = w2.heap.size) wa).setCell (p := ⟨w2.heap.size, 2, none⟩) (.inl rfl) _
              have ob := own_touch HOA.out tset (fun k hk => by omega)
              have OB : Hid ((wa.setCell ⟨w2.heap.size, 2, none⟩ (.slice (some ⟨g0, 0, none⟩) (fs.length + 1) cap)).ownsRow (w2.heap.size + 1) 104 3 (.slice (some ⟨g0, 0, none⟩) (fs.length + 1) cap) (fs ++ [y]).length ((fs ++ [y]).flatMap pcells)) := Lib.hid (by rw [hlen3]; simpa [pcells] using ob)
              have same : ∀ q, q < wr.heap.size → q ≠ pB → q ≠ w2.heap.size → some q ≠ (Value.slice fa fs.length fc).ownBlock → (wa.setCell ⟨w2.heap.size, 2, none⟩ (.slice (some ⟨g0, 0, none⟩) (fs.length + 1) cap)).heap[q]? = wr.heap[q]? := fun q hl h1 h2 h3 =>
                (Below.heap_setCell wa ⟨w2.heap.size, 2, none⟩ _ q h2).trans ((HGA.out.block q (by simp; omega) h3).trans ((Below.heap_alloc w3 _ q (by omega)).trans (T3.out.block q hl h1)))
              have MBB : Hid (MethodsOw (fun k => w2.heap.size + 1 ≤ k ∧ some k ≠ (Value.slice (some ⟨g0, 0, none⟩) (fs.length + 1) cap).ownBlock) (w2.heap.size + 1) (wa.setCell ⟨w2.heap.size, 2, none⟩ (.slice (some ⟨g0, 0, none⟩) (fs.length + 1) cap)) (.slice ma ms.length mc) ms) := Lib.hid (MM.out.keep (fun q hq hl => ⟨hq.1, fun e => by
                  rcases HATA.out with e2 | e2
                  · exact hq.2 (by rw [e2]; exact e)
                  · simp only [Value.ownBlock, Option.some.injEq] at e; subst e; simp at e2; omega⟩) (fun q hq hl => same q hl (by have := hq.1; omega) (by have := hq.1; omega) hq.2) (fun g e => same g (hownm g e.symm).2 (by have := (hownm g e.symm).1; omega) (by have := (hownm g e.symm).1; omega) (fun e2 => HAPP.out g e2.symm e)))
              have hsc : (wa.setCell ⟨w2.heap.size, 2, none⟩ (.slice (some ⟨g0, 0, none⟩) (fs.length + 1) cap)).heap.size = wa.heap.size := by simp [World.setCell]
              generalize hWC : wa.setCell ⟨w2.heap.size, 2, none⟩ (.slice (some ⟨g0, 0, none⟩) (fs.length + 1) cap) = WC at RB OB MBB ⊢
              clear hWC same tset ob Ra Rb hsc
              go_wp2_with fail
              refine RB.out.mustT HR3.out rfl rfl (fun fl w' e ht => ?_) (fun s5 w5 hr5 hl5 R5 T5 => ?_)
              · subst e; go_wp2_with fail; exact ⟨rfl, rfl, ht⟩
              have HR5 := Lib.hid hr5
              have O5 := Lib.hid (own_touch OB.out T5.out (fun k hk => by omega))
              have M5 := Lib.hid (MBB.out.keep (W' := w5) (fun q hq _ => hq) (fun q hq hl => T5.out.block q hl (by have := hq.1; omega)) (fun g e => T5.out.block g (by obtain ⟨ps2, _, o2, _⟩ := MBB.out; exact (o2.lt g e).2) (by have := (hownm g e.symm).1; omega)))
              clear hr5
              go_wp2_with fail
              go_roundg k
              case measure => omega
              case rel => exact ⟨.slice (some ⟨g0, 0, none⟩) (fs.length + 1) cap, .slice ma ms.length mc, fs ++ [y], ms, s5, by omega, R5, O5, M5, HR5, by rw [hlen3]; omega, by omega⟩
          | false =>
            have e1 : membersP en m (k + 1) fs ms s' = PM.bind (mustP en [[109, 101, 116, 104, 111, 100]]) (fun _ => PM.bind (methodP en m) fun x => membersP en m k fs (ms ++ [x])) s' := by rw [membersP]; dsimp only; rw [if_neg (by rw [ha]; decide), if_neg (by rw [hf]; decide)]
            have hr2 : PM.bind (PM.bind (mustP en [[109, 101, 116, 104, 111, 100]]) (fun _ => PM.bind (methodP en m) fun x => membersP en m k fs (ms ++ [x]))) (fun mm : List ParamD × List MethodD => PM.pure (⟨x.1, u, mm.1, mm.2, x.2⟩ : ClassD)) s' = some r := by
              rw [PM.bind, e1] at hr
              exact hr
            simp only [PM.assoc_fun] at hr2
            have HF := Lib.hid hf
            have HR1 := Lib.hid hr2
            clear hr hr2 e1 ha hf HRn b0 b1 b2 b3 b4 bf bl_
            go_wp2_with fail
            refine (may_no wr pB en s' ⟨#[102, 105, 101, 108, 100]⟩ _ rfl RR.out.pat HF.out).mono ?_
            rintro e w0 ⟨rfl, rfl⟩
            go_wp2_with fail
            refine RR.out.mustT HR1.out rfl rfl (fun fl w' e ht => ?_) (fun s1 w1 hr1 hl1 R1 T1 => ?_)
            · subst e; go_wp2_with fail; exact ⟨rfl, rfl, ht⟩
            have HR2 := Lib.hid hr1
            have bb := R1.out.six6 (.head _)
            obtain ⟨b0, b1, b2, b3, b4, bf, bl_⟩ := bb.five
            have b3a : ∀ o, (w1.alloc o).cell? ⟨w2.heap.size, 3, none⟩ = some (.slice ma ms.length mc) := fun o => (bb.alloc o).cell 3
            obtain ⟨i0, hi0, hz0, hz1, hz2⟩ := info_of method_info
            have hne2 : ∀ q, q ≤ w2.heap.size → some q ≠ (Value.slice ma ms.length mc).ownBlock := fun q hq e => by have := (hownm q e).1; omega
            have hszw1 := T1.out.size
            clear bb hr1
            go_wp2_with fail
            go_region_law (first
              | (go_simp; go_at_call 72; go_loud (refine bind_call HR2.out (fun r1 h1 => method_any m HB w1.drew pB en _ r1 R1.out.drew.pat h1) (fun fl w' e ht => by subst e; go_wp2_with fail; exact ⟨rfl, rfl, Tch.trans R1.out.drew.tch ht⟩) ?_; rintro y s3 w3e w3 hr3 h1 ⟨tv, ka, kc, rfl, hpa, hka⟩ hp3 ht3; obtain ⟨ta, tc, rfl⟩ := hpa.form; have R3 := Lib.hid (R1.out.drew.call hp3 ht3); have T3 : Hid (Tch pB wr w3) := Lib.hid (Tch.trans T1.out.drew ht3); have O3 := Lib.hid (own_touch HMO.out T3.out (fun k hk => by omega)); have b3' := R3.out.six6 (.head _); have q3 : w3.cell? ⟨w2.heap.size, 3, none⟩ = some (.slice ma ms.length mc) := b3'.cell 3; have q3a : ∀ o, (w3.alloc o).cell? ⟨w2.heap.size, 3, none⟩ = some (.slice ma ms.length mc) := fun o => (b3'.alloc o).cell 3; have hl3 := ln_method en m _ _ _ h1; have HR3 := Lib.hid hr3; have HIN := Lib.hid (show MethodIn _ w3 y _ _ from ⟨hpa, hka⟩); have hz3' := b3'.lt; clear hr3 h1 hp3 ht3 b3' hpa hka))
              | (go_loud (refine step_append_lies _ rfl _ _ 48 rfl (w2.heap.size + 1) 81 i0 (.agg #[.string ⟨#[]⟩, .string ⟨#[]⟩, .slice none 0 0, .int .i64 0, .string ⟨#[]⟩, .string ⟨#[]⟩, .int .i64 0, .slice none 0 0, .int .i64 0, .int .i64 0]) 10 144 Tryz.underlying48 hi0 hz0 hz1 hz2 rfl (by decide) (.slice ma ms.length mc) ms.length _ (by rfl) (O3.out.alloc _) ⟨w3.heap.size, 0, none⟩ 1 1 (mcells y (.slice ta y.takes.length tc) (.slice ka y.body.kids.length kc)) (by rfl) (by rfl) (news_at _ _ (mcells y (.slice ta y.takes.length tc) (.slice ka y.body.kids.length kc))) (by simp [mcells, Value.oneCell']) (by omega) (by unfold maxLen; omega) (by omega) (by simp; omega) _ (by rfl) ?_; intro g0 cap wa hoa hga hata hla; have ba := ((R3.out.six6 (.head _)).alloc _).kept hga (hne2 _ (Nat.le_refl _)); have ca3 := ba.cell 3; have caf := ba.frozen 3; have HOA := Lib.hid hoa; have HGA := Lib.hid hga; have HATA := Lib.hid hata; clear hoa hga hata ba)))
            all_goals
              have hlen3 : (ms ++ [y]).length = ms.length + 1 := by simp
              have hszw := T3.out.size
              have Ra := (R3.out.alloc0 (.cells (mcells y (.slice ta y.takes.length tc) (.slice ka y.body.kids.length kc)).toArray 81)).grown HGA.out (fun q e => (hownm q e).1) (by intro x hx; simp only [List.mem_cons, List.not_mem_nil, or_false] at hx; rcases hx with rfl | rfl <;> (dsimp only; omega)) (fun q e => by have := (hownm q e).2; simp; omega)
              have Rb := Ra.set (one_ne hne) 3 (.slice (some ⟨g0, 0, none⟩) (ms.length + 1) cap)
              simp only [List.setIfInBounds_toArray, List.set_cons_zero, List.set_cons_succ] at Rb
              have RB := Lib.hid Rb
              have tset : Touch (fun i => i = w2.heap.size) wa (wa.setCell ⟨w2.heap.size, 3, none⟩ (.slice (some ⟨g0, 0, none⟩) (ms.length + 1) cap)) := (Touch.refl (fun i => i = w2.heap.size) wa).setCell (p := ⟨w2.heap.size, 3, none⟩) (.inl rfl) _
              have of3 := own_touch OO.out T3.out (fun k hk => by omega)
              have ofa := (of3.alloc (.cells (mcells y (.slice ta y.takes.length tc) (.slice ka y.body.kids.length kc)).toArray 81)).kept HGA.out (by
                cases hfv : (Value.slice fa fs.length fc).ownBlock with
                | none => exact .inl rfl
                | some g => exact .inr (fun e => HAPP.out g hfv e.symm))
              have OB := Lib.hid (own_touch ofa tset (fun k hk => by omega))
              have mb := MethodsOw.appended (ok := fun k => w2.heap.size + 1 ≤ k ∧ some k ≠ (Value.slice fa fs.length fc).ownBlock) (w1 := w3) HPS.out (fun p hp => (HMK.out p hp).keep (W' := w3) (fun _ h _ => h) (fun q hq hl => T3.out.block q hl (by have := hq.1.1; omega))) (HIN.out.keep (W' := w3) (fun q hq hl => ⟨⟨by have : w1.heap.size ≤ q := hq; omega, fun e => by have := (hownf q e).2; have : w1.heap.size ≤ q := hq; omega⟩, fun e => by have := (hownm q e).2; have : w1.heap.size ≤ q := hq; omega⟩) (fun _ _ _ => rfl)) HOA.out HGA.out (HATA.out.elim (fun e => .inl e.symm) (fun e => .inr (congrArg some e)))
              have MBB := Lib.hid (mb.keep (W' := wa.setCell ⟨w2.heap.size, 3, none⟩ (.slice (some ⟨g0, 0, none⟩) (ms.length + 1) cap)) (fun _ h _ => h) (fun q hq hl => Below.heap_setCell wa ⟨w2.heap.size, 3, none⟩ _ q (by have := hq.1; dsimp only; omega)) (fun g e => Below.heap_setCell wa ⟨w2.heap.size, 3, none⟩ _ g (by have := (HOA.out.lt g e).1; dsimp only; omega)))
              go_wp2_with fail
              go_roundg k
              case measure => omega
              case rel => exact ⟨.slice fa fs.length fc, .slice (some ⟨g0, 0, none⟩) (ms.length + 1) cap, fs, ms ++ [y], s3, by omega, RB, OB, MBB, HR3, by omega, by rw [hlen3]; omega⟩
  | false =>
    rw [PM.bind, if_neg (by rw [ha]; decide)] at hr
    obtain ⟨u, hu⟩ : ∃ u, u = objectL := ⟨_, rfl⟩
    rw [← hu] at hr
    have hub : (⟨#[79, 98, 106, 101, 99, 116]⟩ : ByteArray) = mkB u := by rw [hu]; rfl
    rw [hub] at R5
    have HA := Lib.hid ha
    have HR5 := Lib.hid hr
    clear hr ha HR4 hu hub
    go_wp2_with fail
    refine (R5.out.mayNR (b := ⟨#[101, 120, 116, 101, 110, 100, 115]⟩) rfl HA.out).mono ?_
    rintro e wa ⟨rfl, Ra⟩
    go_wp2_with fail
    refine Ra.out.must HR5.out (by simp [World.setCell]) rfl (fun fl w' e ht => ?_) (fun s6 w6 hr6 hl6 R6 => ?_)
    · subst e; go_wp2_with fail; exact ⟨rfl, rfl, ht⟩
    have HR6 := Lib.hid hr6
    have hl0 : s6.ws.length ≤ 1000000 := R6.out.pat.2.1
    have O6 := Lib.hid (World.ownsRow_nil w6 (w2.heap.size + 1) 104 3)
    have M6 := Lib.hid (MethodsOw.nil (fun k => w2.heap.size + 1 ≤ k ∧ some k ≠ (Value.slice none 0 0).ownBlock) (w2.heap.size + 1) w6)
    clear hr6
    go_wp2_with fail
    go_loopg [] m (fun k wr => ∃ (fv mv : Value) (fs : List ParamD) (ms : List MethodD) (s' : PSt), k ≤ m ∧ Hid (Rd pB en w [(w2.heap.size, 50, #[.string (mkB x.1), .string (mkB u), fv, mv, .int .i64 x.2]), (w.heap.size, 50, #[.string ⟨#[]⟩, .string ⟨#[]⟩, .slice none 0 0, .slice none 0 0, .int .i64 0])] [] wr s') ∧ Hid (wr.ownsRow (w2.heap.size + 1) 104 3 fv fs.length (fs.flatMap pcells)) ∧ Hid (MethodsOw (fun k => w2.heap.size + 1 ≤ k ∧ some k ≠ fv.ownBlock) (w2.heap.size + 1) wr mv ms) ∧ Hid (PM.bind (membersP en m k fs ms) (fun mm : List ParamD × List MethodD => PM.pure (⟨x.1, u, mm.1, mm.2, x.2⟩ : ClassD)) s' = some r) ∧ fs.length + s'.ws.length ≤ 1000000 ∧ ms.length + s'.ws.length ≤ 1000000)
    case atStart => exact ⟨.slice none 0 0, .slice none 0 0, [], [], s6, Nat.le_refl _, R6, O6, M6, HR6, by simpa using hl0, by simpa using hl0⟩
    case round =>
      clear R6 O6 M6 HR6 hl0 HR
      obtain ⟨fv, mv, fs, ms, s', hk, RR, OO, MM, HRn, hlf, hlm⟩ := hrel
      obtain ⟨b0, b1, b2, b3, b4, bf, bl_⟩ := (RR.out.six6 (.head _)).five
      obtain ⟨ps, hps, hmo, hmk⟩ := MM.out
      obtain ⟨fa, fc, rfl⟩ := own_form OO.out
      obtain ⟨ma, mc, rfl⟩ := own_form hmo
      have HPS := Lib.hid hps
      have HMO := Lib.hid hmo
      have HMK := Lib.hid hmk
      clear hps hmo hmk
      cases gk with
      | zero => exact absurd HRn.out (by simp [membersP, PM.bind])
      | succ k =>
        have hr := HRn.out
        cases ha : aheadP s' 0 [125] with
        | true =>
          rw [membersP, PM.bind, if_pos ha] at hr
          have HA := Lib.hid ha
          obtain rfl : r = .ok (⟨x.1, u, fs, ms, x.2⟩, nextP s') := by simpa [PM.pure] using hr.symm
          clear hr ha HRn
          go_wp2_with fail
          refine (may_yes wr pB en s' ⟨#[125]⟩ _ rfl RR.out.pat HA.out).mono ?_
          rintro e w7 ⟨rfl, hp7, ht7⟩
          have R7 := Lib.hid (RR.out.call hp7.out ht7.out)
          have O7 := Lib.hid (own_touch OO.out ht7.out (fun k hk => by omega))
          have M7 := Lib.hid (MM.out.keep (W' := w7) (ok' := fun k => w2.heap.size + 1 ≤ k) (fun k h _ => h.1) (fun k h hl => ht7.out.block k hl (by have := h.1; omega)) (fun g e => ht7.out.block g (HMO.out.lt g e).2 (by have := (HMO.out.lt g e).1; omega)))
          obtain ⟨c0, c1, c2, c3, c4, cf, cl⟩ := (R7.out.six6 (.head _)).five
          obtain ⟨r0, r1, r2, r3, r4, rf, rl⟩ := (R7.out.six6 (.tail _ (.head _))).five
          have hne' : w2.heap.size ≠ w.heap.size := by omega
          have RF := Lib.hid (((((R7.out.swap.set (one_ne hne') 0 (.string (mkB x.1))).set (one_ne hne') 1 (.string (mkB u))).set (one_ne hne') 2 (.slice fa fs.length fc)).set (one_ne hne') 3 (.slice ma ms.length mc)).set (one_ne hne') 4 (.int .i64 x.2))
          simp only [List.setIfInBounds_toArray, List.set_cons_zero, List.set_cons_succ] at RF
          go_wp2_with fail
          refine bodyPost_ret (results_cell_row (fn := Tryz.f35) rfl _ _ w.heap.size 50 _ (0, 0) _ rfl (RF.out.six6 (.head _)) rfl rfl (by kernel_rfl)) rfl ⟨⟨fa, fc, ma, mc, rfl, ?_, ?_⟩, RF.out.pat, RF.out.tch⟩
          · refine (ParamsAt.own O7.out).keep (fun k hk _ => by omega) (fun k hk hl => ?_)
            iterate 5 refine (Below.heap_setCell _ ⟨_, _, none⟩ _ k (by dsimp only; omega)).trans ?_
            rfl
          · refine (M7.out.shut (fun g e => (HMO.out.lt g e).1)).keep (fun k hk _ => by omega) (fun k hk hl => ?_)
            iterate 5 refine (Below.heap_setCell _ ⟨_, _, none⟩ _ k (by dsimp only; omega)).trans ?_
            rfl
        | false =>
          have hn := Lib.hid ha
          have hlnf : fs.length ≤ 1000000 := by omega
          have hlnm : ms.length ≤ 1000000 := by omega
          have hownf : ∀ q, some q = (Value.slice fa fs.length fc).ownBlock → w2.heap.size + 1 ≤ q ∧ q < wr.heap.size := fun q e => OO.out.lt q e.symm
          have hownm : ∀ q, some q = (Value.slice ma ms.length mc).ownBlock → w2.heap.size + 1 ≤ q ∧ q < wr.heap.size := fun q e => HMO.out.lt q e.symm
          have happ : ∀ g, (Value.slice fa fs.length fc).ownBlock = some g → (Value.slice ma ms.length mc).ownBlock ≠ some g := rows_ne OO.out HMO.out (by decide)
          have HAPP := Lib.hid happ
          clear happ
          go_wp2_with fail
          refine (may_no wr pB en s' ⟨#[125]⟩ _ rfl RR.out.pat hn.out).mono ?_
          rintro e w0 ⟨rfl, rfl⟩
          cases hf : aheadP s' 0 [102, 105, 101, 108, 100] with
          | true =>
            have e1 : membersP en m (k + 1) fs ms s' = PM.bind (paramP en) (fun x => PM.bind (mustP en [[59]]) fun _ => membersP en m k (fs ++ [x]) ms) (nextP s') := by rw [membersP]; dsimp only; rw [if_neg (by rw [ha]; decide), if_pos hf]
            have hr2 : PM.bind (PM.bind (paramP en) (fun x => PM.bind (mustP en [[59]]) fun _ => membersP en m k (fs ++ [x]) ms)) (fun mm : List ParamD × List MethodD => PM.pure (⟨x.1, u, mm.1, mm.2, x.2⟩ : ClassD)) (nextP s') = some r := by
              rw [PM.bind, e1] at hr
              exact hr
            simp only [PM.assoc_fun] at hr2
            have HF := Lib.hid hf
            have HR1 := Lib.hid hr2
            clear hr hr2 e1 ha hf HRn b0 b1 b2 b3 b4 bf bl_
            go_wp2_with fail
            refine (may_yes wr pB en s' ⟨#[102, 105, 101, 108, 100]⟩ _ rfl RR.out.pat HF.out).mono ?_
            rintro e w1 ⟨rfl, hp1, ht1⟩
            have R1 := Lib.hid (RR.out.call hp1.out ht1.out)
            have O1 := Lib.hid (own_touch OO.out ht1.out (fun k hk => by omega))
            have HL1 : (nextP s').ws.length ≤ s'.ws.length := next_le s'
            have bb := R1.out.six6 (.head _)
            obtain ⟨b0, b1, b2, b3, b4, bf, bl_⟩ := bb.five
            have b2a : ∀ o, (w1.alloc o).cell? ⟨w2.heap.size, 2, none⟩ = some (.slice fa fs.length fc) := fun o => (bb.alloc o).cell 2
            obtain ⟨i0, hi0, hz0, hz1, hz2⟩ := info_of param_info
            have hne2 : ∀ q, q ≤ w2.heap.size → some q ≠ (Value.slice fa fs.length fc).ownBlock := fun q hq e => by have := (hownf q e).1; omega
            clear bb
            go_wp2_with fail
            go_region_law (first
              | (go_simp; go_at_call 71; go_loud (refine bind_call HR1.out (fun r1 h1 => param_any w1.drew pB en _ r1 R1.out.drew.pat h1) (fun fl w' e ht => by subst e; go_wp2_with fail; exact ⟨rfl, rfl, Tch.trans R1.out.drew.tch ht⟩) ?_; rintro y s3 w3e w3 hr3 h1 rfl hp3 ht3; have R3 := Lib.hid (R1.out.drew.call hp3 ht3); have O3 := Lib.hid (own_touch (W := w1.drew) O1.out.drew ht3 (fun k hk => by omega)); have T3 : Hid (Tch pB wr w3) := Lib.hid (Tch.trans ht1.out.drew ht3); have b3' := R3.out.six6 (.head _); have q2 : w3.cell? ⟨w2.heap.size, 2, none⟩ = some (.slice fa fs.length fc) := b3'.cell 2; have q2a : ∀ o, (w3.alloc o).cell? ⟨w2.heap.size, 2, none⟩ = some (.slice fa fs.length fc) := fun o => (b3'.alloc o).cell 2; have hl3 := ln_param en _ _ _ h1; have HR3 := Lib.hid hr3; have hz3' := b3'.lt; clear hr3 h1 hp3 ht3 b3'))
              | (go_loud (refine step_append_lies _ rfl _ _ 47 rfl (w2.heap.size + 1) 104 i0 (.agg #[.string ⟨#[]⟩, .string ⟨#[]⟩, .int .i64 0]) 3 40 Tryz.underlying47 hi0 hz0 hz1 hz2 rfl (by decide) (.slice fa fs.length fc) fs.length _ (by rfl) (O3.out.alloc _) ⟨w3.heap.size, 0, none⟩ 1 1 (pcells y) (by rfl) (by rfl) (news_at _ _ (pcells y)) (by simp [pcells, Value.oneCell']) (by omega) (by unfold maxLen; omega) (by omega) (by simp; omega) _ (by rfl) ?_; intro g0 cap wa hoa hga hata hla; have ba := ((R3.out.six6 (.head _)).alloc _).kept hga (hne2 _ (Nat.le_refl _)); have ca2 := ba.cell 2; have caf := ba.frozen 2; have HOA := Lib.hid hoa; have HGA := Lib.hid hga; have HATA := Lib.hid hata; clear hoa hga hata ba)))
            all_goals
              have hlen3 : (fs ++ [y]).length = fs.length + 1 := by simp
              have hszw := T3.out.size
              have Ra := (R3.out.alloc0 (.cells #[.string (mkB y.name), .string (mkB y.type), .int .i64 y.at_] 104)).grown HGA.out (fun q e => (hownf q e).1) (by intro x hx; simp only [List.mem_cons, List.not_mem_nil, or_false] at hx; rcases hx with rfl | rfl <;> (dsimp only; omega)) (fun q e => by have := (hownf q e).2; simp; omega)
              have Rb := Ra.set (one_ne hne) 2 (.slice (some ⟨g0, 0, none⟩) (fs.length + 1) cap)
              simp only [List.setIfInBounds_toArray, List.set_cons_zero, List.set_cons_succ] at Rb
              have RB := Lib.hid Rb
              have tset : Touch (fun i => i = w2.heap.size) wa (wa.setCell ⟨w2.heap.size, 2, none⟩ (.slice (some ⟨g0, 0, none⟩) (fs.length + 1) cap)) := (Touch.refl (fun i => i = w2.heap.size) wa).setCell (p := ⟨w2.heap.size, 2, none⟩) (.inl rfl) _
              have ob := own_touch HOA.out tset (fun k hk => by omega)
              have OB : Hid ((wa.setCell ⟨w2.heap.size, 2, none⟩ (.slice (some ⟨g0, 0, none⟩) (fs.length + 1) cap)).ownsRow (w2.heap.size + 1) 104 3 (.slice (some ⟨g0, 0, none⟩) (fs.length + 1) cap) (fs ++ [y]).length ((fs ++ [y]).flatMap pcells)) := Lib.hid (by rw [hlen3]; simpa [pcells] using ob)
              have same : ∀ q, q < wr.heap.size → q ≠ pB → q ≠ w2.heap.size → some q ≠ (Value.slice fa fs.length fc).ownBlock → (wa.setCell ⟨w2.heap.size, 2, none⟩ (.slice (some ⟨g0, 0, none⟩) (fs.length + 1) cap)).heap[q]? = wr.heap[q]? := fun q hl h1 h2 h3 =>
                (Below.heap_setCell wa ⟨w2.heap.size, 2, none⟩ _ q h2).trans ((HGA.out.block q (by simp; omega) h3).trans ((Below.heap_alloc w3 _ q (by omega)).trans (T3.out.block q hl h1)))
              have MBB : Hid (MethodsOw (fun k => w2.heap.size + 1 ≤ k ∧ some k ≠ (Value.slice (some ⟨g0, 0, none⟩) (fs.length + 1) cap).ownBlock) (w2.heap.size + 1) (wa.setCell ⟨w2.heap.size, 2, none⟩ (.slice (some ⟨g0, 0, none⟩) (fs.length + 1) cap)) (.slice ma ms.length mc) ms) := Lib.hid (MM.out.keep (fun q hq hl => ⟨hq.1, fun e => by
                  rcases HATA.out with e2 | e2
                  · exact hq.2 (by rw [e2]; exact e)
                  · simp only [Value.ownBlock, Option.some.injEq] at e; subst e; simp at e2; omega⟩) (fun q hq hl => same q hl (by have := hq.1; omega) (by have := hq.1; omega) hq.2) (fun g e => same g (hownm g e.symm).2 (by have := (hownm g e.symm).1; omega) (by have := (hownm g e.symm).1; omega) (fun e2 => HAPP.out g e2.symm e)))
              have hsc : (wa.setCell ⟨w2.heap.size, 2, none⟩ (.slice (some ⟨g0, 0, none⟩) (fs.length + 1) cap)).heap.size = wa.heap.size := by simp [World.setCell]
              generalize hWC : wa.setCell ⟨w2.heap.size, 2, none⟩ (.slice (some ⟨g0, 0, none⟩) (fs.length + 1) cap) = WC at RB OB MBB ⊢
              clear hWC same tset ob Ra Rb hsc
              go_wp2_with fail
              refine RB.out.mustT HR3.out rfl rfl (fun fl w' e ht => ?_) (fun s5 w5 hr5 hl5 R5 T5 => ?_)
              · subst e; go_wp2_with fail; exact ⟨rfl, rfl, ht⟩
              have HR5 := Lib.hid hr5
              have O5 := Lib.hid (own_touch OB.out T5.out (fun k hk => by omega))
              have M5 := Lib.hid (MBB.out.keep (W' := w5) (fun q hq _ => hq) (fun q hq hl => T5.out.block q hl (by have := hq.1; omega)) (fun g e => T5.out.block g (by obtain ⟨ps2, _, o2, _⟩ := MBB.out; exact (o2.lt g e).2) (by have := (hownm g e.symm).1; omega)))
              clear hr5
              go_wp2_with fail
              go_roundg k
              case measure => omega
              case rel => exact ⟨.slice (some ⟨g0, 0, none⟩) (fs.length + 1) cap, .slice ma ms.length mc, fs ++ [y], ms, s5, by omega, R5, O5, M5, HR5, by rw [hlen3]; omega, by omega⟩
          | false =>
            have e1 : membersP en m (k + 1) fs ms s' = PM.bind (mustP en [[109, 101, 116, 104, 111, 100]]) (fun _ => PM.bind (methodP en m) fun x => membersP en m k fs (ms ++ [x])) s' := by rw [membersP]; dsimp only; rw [if_neg (by rw [ha]; decide), if_neg (by rw [hf]; decide)]
            have hr2 : PM.bind (PM.bind (mustP en [[109, 101, 116, 104, 111, 100]]) (fun _ => PM.bind (methodP en m) fun x => membersP en m k fs (ms ++ [x]))) (fun mm : List ParamD × List MethodD => PM.pure (⟨x.1, u, mm.1, mm.2, x.2⟩ : ClassD)) s' = some r := by
              rw [PM.bind, e1] at hr
              exact hr
            simp only [PM.assoc_fun] at hr2
            have HF := Lib.hid hf
            have HR1 := Lib.hid hr2
            clear hr hr2 e1 ha hf HRn b0 b1 b2 b3 b4 bf bl_
            go_wp2_with fail
            refine (may_no wr pB en s' ⟨#[102, 105, 101, 108, 100]⟩ _ rfl RR.out.pat HF.out).mono ?_
            rintro e w0 ⟨rfl, rfl⟩
            go_wp2_with fail
            refine RR.out.mustT HR1.out rfl rfl (fun fl w' e ht => ?_) (fun s1 w1 hr1 hl1 R1 T1 => ?_)
            · subst e; go_wp2_with fail; exact ⟨rfl, rfl, ht⟩
            have HR2 := Lib.hid hr1
            have bb := R1.out.six6 (.head _)
            obtain ⟨b0, b1, b2, b3, b4, bf, bl_⟩ := bb.five
            have b3a : ∀ o, (w1.alloc o).cell? ⟨w2.heap.size, 3, none⟩ = some (.slice ma ms.length mc) := fun o => (bb.alloc o).cell 3
            obtain ⟨i0, hi0, hz0, hz1, hz2⟩ := info_of method_info
            have hne2 : ∀ q, q ≤ w2.heap.size → some q ≠ (Value.slice ma ms.length mc).ownBlock := fun q hq e => by have := (hownm q e).1; omega
            have hszw1 := T1.out.size
            clear bb hr1
            go_wp2_with fail
            go_region_law (first
              | (go_simp; go_at_call 72; go_loud (refine bind_call HR2.out (fun r1 h1 => method_any m HB w1.drew pB en _ r1 R1.out.drew.pat h1) (fun fl w' e ht => by subst e; go_wp2_with fail; exact ⟨rfl, rfl, Tch.trans R1.out.drew.tch ht⟩) ?_; rintro y s3 w3e w3 hr3 h1 ⟨tv, ka, kc, rfl, hpa, hka⟩ hp3 ht3; obtain ⟨ta, tc, rfl⟩ := hpa.form; have R3 := Lib.hid (R1.out.drew.call hp3 ht3); have T3 : Hid (Tch pB wr w3) := Lib.hid (Tch.trans T1.out.drew ht3); have O3 := Lib.hid (own_touch HMO.out T3.out (fun k hk => by omega)); have b3' := R3.out.six6 (.head _); have q3 : w3.cell? ⟨w2.heap.size, 3, none⟩ = some (.slice ma ms.length mc) := b3'.cell 3; have q3a : ∀ o, (w3.alloc o).cell? ⟨w2.heap.size, 3, none⟩ = some (.slice ma ms.length mc) := fun o => (b3'.alloc o).cell 3; have hl3 := ln_method en m _ _ _ h1; have HR3 := Lib.hid hr3; have HIN := Lib.hid (show MethodIn _ w3 y _ _ from ⟨hpa, hka⟩); have hz3' := b3'.lt; clear hr3 h1 hp3 ht3 b3' hpa hka))
              | (go_loud (refine step_append_lies _ rfl _ _ 48 rfl (w2.heap.size + 1) 81 i0 (.agg #[.string ⟨#[]⟩, .string ⟨#[]⟩, .slice none 0 0, .int .i64 0, .string ⟨#[]⟩, .string ⟨#[]⟩, .int .i64 0, .slice none 0 0, .int .i64 0, .int .i64 0]) 10 144 Tryz.underlying48 hi0 hz0 hz1 hz2 rfl (by decide) (.slice ma ms.length mc) ms.length _ (by rfl) (O3.out.alloc _) ⟨w3.heap.size, 0, none⟩ 1 1 (mcells y (.slice ta y.takes.length tc) (.slice ka y.body.kids.length kc)) (by rfl) (by rfl) (news_at _ _ (mcells y (.slice ta y.takes.length tc) (.slice ka y.body.kids.length kc))) (by simp [mcells, Value.oneCell']) (by omega) (by unfold maxLen; omega) (by omega) (by simp; omega) _ (by rfl) ?_; intro g0 cap wa hoa hga hata hla; have ba := ((R3.out.six6 (.head _)).alloc _).kept hga (hne2 _ (Nat.le_refl _)); have ca3 := ba.cell 3; have caf := ba.frozen 3; have HOA := Lib.hid hoa; have HGA := Lib.hid hga; have HATA := Lib.hid hata; clear hoa hga hata ba)))
            all_goals
              have hlen3 : (ms ++ [y]).length = ms.length + 1 := by simp
              have hszw := T3.out.size
              have Ra := (R3.out.alloc0 (.cells (mcells y (.slice ta y.takes.length tc) (.slice ka y.body.kids.length kc)).toArray 81)).grown HGA.out (fun q e => (hownm q e).1) (by intro x hx; simp only [List.mem_cons, List.not_mem_nil, or_false] at hx; rcases hx with rfl | rfl <;> (dsimp only; omega)) (fun q e => by have := (hownm q e).2; simp; omega)
              have Rb := Ra.set (one_ne hne) 3 (.slice (some ⟨g0, 0, none⟩) (ms.length + 1) cap)
              simp only [List.setIfInBounds_toArray, List.set_cons_zero, List.set_cons_succ] at Rb
              have RB := Lib.hid Rb
              have tset : Touch (fun i => i = w2.heap.size) wa (wa.setCell ⟨w2.heap.size, 3, none⟩ (.slice (some ⟨g0, 0, none⟩) (ms.length + 1) cap)) := (Touch.refl (fun i => i = w2.heap.size) wa).setCell (p := ⟨w2.heap.size, 3, none⟩) (.inl rfl) _
              have of3 := own_touch OO.out T3.out (fun k hk => by omega)
              have ofa := (of3.alloc (.cells (mcells y (.slice ta y.takes.length tc) (.slice ka y.body.kids.length kc)).toArray 81)).kept HGA.out (by
                cases hfv : (Value.slice fa fs.length fc).ownBlock with
                | none => exact .inl rfl
                | some g => exact .inr (fun e => HAPP.out g hfv e.symm))
              have OB := Lib.hid (own_touch ofa tset (fun k hk => by omega))
              have mb := MethodsOw.appended (ok := fun k => w2.heap.size + 1 ≤ k ∧ some k ≠ (Value.slice fa fs.length fc).ownBlock) (w1 := w3) HPS.out (fun p hp => (HMK.out p hp).keep (W' := w3) (fun _ h _ => h) (fun q hq hl => T3.out.block q hl (by have := hq.1.1; omega))) (HIN.out.keep (W' := w3) (fun q hq hl => ⟨⟨by have : w1.heap.size ≤ q := hq; omega, fun e => by have := (hownf q e).2; have : w1.heap.size ≤ q := hq; omega⟩, fun e => by have := (hownm q e).2; have : w1.heap.size ≤ q := hq; omega⟩) (fun _ _ _ => rfl)) HOA.out HGA.out (HATA.out.elim (fun e => .inl e.symm) (fun e => .inr (congrArg some e)))
              have MBB := Lib.hid (mb.keep (W' := wa.setCell ⟨w2.heap.size, 3, none⟩ (.slice (some ⟨g0, 0, none⟩) (ms.length + 1) cap)) (fun _ h _ => h) (fun q hq hl => Below.heap_setCell wa ⟨w2.heap.size, 3, none⟩ _ q (by have := hq.1; dsimp only; omega)) (fun g e => Below.heap_setCell wa ⟨w2.heap.size, 3, none⟩ _ g (by have := (HOA.out.lt g e).1; dsimp only; omega)))
              go_wp2_with fail
              go_roundg k
              case measure => omega
              case rel => exact ⟨.slice fa fs.length fc, .slice (some ⟨g0, 0, none⟩) (ms.length + 1) cap, fs, ms ++ [y], s3, by omega, RB, OB, MBB, HR3, by omega, by rw [hlen3]; omega⟩
end Go.Proofs.YtcaigcmbgihhkaaGreatDoor
