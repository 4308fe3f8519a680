/-
  Part of a proof: ParI, ParJ, ParK, ParL, ParN.
-/
import Derived.Test.YtcaigcmbgihhkaaGreatDoorZParA
import Derived.Test.YtcaigcmbgihhkaaGreatDoorZMem
import Derived.Deep.RegionLaw
import Derived.Deep.AppendLies
namespace Go.Proofs.YtcaigcmbgihhkaaGreatDoor
open Go Go.RowKit Go.Shelf
set_option linter.unusedVariables false
set_option linter.unusedSimpArgs false
attribute [local go_sem] Oper.semAt_some
theorem bind_call {α β : Type} {m : PM α} {f : α → PM β} {s : PSt} {r : Except Fault (β × PSt)} {pB : Nat} {en : Int} {w0 W : World} {fn : Nat} {args : Array Value} {Q : α → Ending → World → Prop} {Φ : Ending → World → Prop}
    (hr : PM.bind m f s = some r) (hc : ∀ r1, m s = some r1 → Calls Tryz.prog fn args W (PEnd pB en w0 Q r1))
    (hE : ∀ fl w', r = .error fl → Tch pB w0 w' → Φ (.panicked (faultC fl)) w')
    (hK : ∀ a s' e w', f a s' = some r → m s = some (.ok (a, s')) → Q a e w' → PAt w' pB en s' → Tch pB w0 w' → Φ e w') : Calls Tryz.prog fn args W Φ := by
  rcases PM.bind_cases hr with ⟨fl, h1, h2⟩ | ⟨a, s1, h1, h2⟩
  · refine (hc _ h1).mono ?_
    rintro e w' ⟨rfl, ht⟩
    exact hE fl w' h2 ht
  · refine (hc _ h1).mono ?_
    rintro e w' ⟨hq, hp, ht⟩
    exact hK a s1 e w' h2 h1 hq hp ht
def KidsOwn (n0 : Nat) (W : World) (v : Value) (ks : List NodeD) : Prop := ∃ ps : List (NodeD × Value), ps.map Prod.fst = ks ∧ W.ownsRow n0 79 6 v ks.length (ps.flatMap fun p => ncells p.1 p.2) ∧ ∀ p ∈ ps, KidsAt (fun k => n0 ≤ k ∧ some k ≠ v.ownBlock) W p.1.kids p.2
theorem KidsOwn.nil (n0 : Nat) (W : World) : KidsOwn n0 W (.slice none 0 0) [] := ⟨[], rfl, World.ownsRow_nil _ _ _ _, fun p h => by simp at h⟩
theorem KidsOwn.form {n0 : Nat} {W : World} {v : Value} {ks : List NodeD} (h : KidsOwn n0 W v ks) : ∃ ao c, v = .slice ao ks.length c := by
  obtain ⟨ps, _, ho, _⟩ := h
  exact own_form ho
theorem KidsOwn.keep {n0 : Nat} {W W' : World} {v : Value} {ks : List NodeD} (h : KidsOwn n0 W v ks) {q : Nat} (ht : Touch (fun i => i = q) W W') (hq : ∀ g, v.ownBlock = some g → g ≠ q) (hq2 : q < n0) : KidsOwn n0 W' v ks := by
  obtain ⟨ps, h1, ho, hk⟩ := h
  refine ⟨ps, h1, ?_, fun p hp => (hk p hp).keep (fun _ h _ => h) (fun k hk hl => ht.block k hl (by have := hk.1; omega))⟩
  have hr : RowAt W (fun i => some i = v.ownBlock) 79 6 v ks.length (ps.flatMap fun p => ncells p.1 p.2) := ⟨⟨ho.1, by
    rcases ho.2 with h | ⟨g, cap, cur, e, hg, r⟩
    · exact .inl h
    · exact .inr ⟨g, cap, cur, e, Nat.zero_le _, r⟩⟩, fun k hk => hk.symm⟩
  have := (hr.touch ht (fun k h1 h2 => hq k h1.symm h2)).1
  refine ⟨this.1, ?_⟩
  rcases this.2 with h | ⟨g, cap, cur, e, hg, r⟩
  · exact .inl h
  · exact .inr ⟨g, cap, cur, e, (ho.lt g (by rw [e]; rfl)).1, r⟩
theorem KidsOwn.row {n0 : Nat} {W : World} {v : Value} {ks : List NodeD} (h : KidsOwn n0 W v ks) : ∃ ps : List (NodeD × Value), ps.map Prod.fst = ks ∧ W.ownsRow n0 79 6 v ks.length (ps.flatMap fun p => ncells p.1 p.2) ∧ ∀ p ∈ ps, KidsAt (fun k => n0 ≤ k ∧ some k ≠ v.ownBlock) W p.1.kids p.2 := h
theorem KidsOwn.kids {n0 : Nat} {W : World} {v : Value} {ks : List NodeD} (h : KidsOwn n0 W v ks) : KidsAt (fun k => n0 ≤ k) W ks v := by
  obtain ⟨ps, rfl, ho, hk⟩ := h
  rcases ho.2 with ⟨rfl, hn⟩ | ⟨g, cap, cur, rfl, hg, hb, h1, h2, h3, h4⟩
  · have : ps = [] := by
      cases ps with
      | nil => rfl
      | cons p t => simp at hn
    subst this
    exact KidsAt.nil _ _
  · refine KidsAt.row ps g cap _ (by simp) (fun _ => hg) h1 h2 (fun p hp => (hk p hp).mono (fun k h _ => h.1)) (fun i u hu => ?_)
    have hb' : Blk W g 79 cur := hb
    rw [hb'.cell]
    have hi := (List.getElem?_eq_some_iff.1 hu).1
    rw [← hu, take_get h4 i (by rw [ho.1] at hi; exact hi)]
theorem KidsOwn.touch {n0 : Nat} {W W' : World} {v : Value} {ks : List NodeD} {S : Nat → Prop} (h : KidsOwn n0 W v ks) (ht : Touch S W W') (hS : ∀ k, S k → k < n0) : KidsOwn n0 W' v ks := by
  obtain ⟨ps, h1, ho, hk⟩ := h
  refine ⟨ps, h1, ⟨ho.1, ?_⟩, fun p hp => (hk p hp).keep (fun _ h _ => h) (fun k hk hl => ht.block k hl (fun hs => by have := hS k hs; omega))⟩
  rcases ho.2 with h | ⟨g, cap, cur, e, hg, hb, r⟩
  · exact .inl h
  · exact .inr ⟨g, cap, cur, e, hg, (ht.block g (Array.getElem?_eq_some_iff.1 hb).1 (fun hs => by have := hS g hs; omega)).trans hb, r⟩
theorem KidsOwn.appended {n0 : Nat} {w1 w3 : World} {v v' kv : Value} {ks : List NodeD} {n : NodeD} {tmp : Obj} {ps : List (NodeD × Value)} (h1 : ps.map Prod.fst = ks) (hk : ∀ p ∈ ps, KidsAt (fun k => n0 ≤ k ∧ some k ≠ v.ownBlock) w1 p.1.kids p.2)
    (hn : KidsAt (fun k => n0 ≤ k ∧ some k ≠ v.ownBlock) w1 n.kids kv) (ho : w3.ownsRow n0 79 6 v' (ks.length + 1) ((ps.flatMap fun p => ncells p.1 p.2) ++ ncells n kv)) (hg : (w1.alloc tmp).grownBy w3 v.ownBlock)
    (hat : v'.ownBlock = v.ownBlock ∨ v'.ownBlock = some (w1.alloc tmp).heap.size) : KidsOwn n0 w3 v' (ks ++ [n]) := by
  have hb : ∀ k, k < w1.heap.size → some k ≠ v.ownBlock → w3.heap[k]? = w1.heap[k]? := fun k hl hne => (hg.block k (by simp; omega) hne).trans (Below.heap_alloc w1 tmp k hl)
  have hok : ∀ k, (n0 ≤ k ∧ some k ≠ v.ownBlock) → k < w1.heap.size → (n0 ≤ k ∧ some k ≠ v'.ownBlock) := fun k h hl => ⟨h.1, by
    rcases hat with e | e
    · rw [e]; exact h.2
    · rw [e]; simp; omega⟩
  refine ⟨ps ++ [(n, kv)], by rw [List.map_append, h1]; rfl, by simpa using ho, fun p hp => ?_⟩
  rcases List.mem_append.1 hp with hp | hp
  · exact (hk p hp).keep hok (fun k hk hl => hb k hl hk.2)
  · simp only [List.mem_singleton] at hp
    subst hp
    exact hn.keep hok (fun k hk hl => hb k hl hk.2)
set_option maxRecDepth 100000 in
theorem node_info : (Tryz.prog.info? 79).map (fun i => (i.zero, i.size, i.bytes)) = some (some (.agg #[.int .i64 0, .string ⟨#[]⟩, .string ⟨#[]⟩, .int .i64 0, .slice none 0 0, .int .i64 0]), 6, 80) := rfl
def NTC (m : Nat) (nt : NT) (f : Nat) : Prop := ∀ (w : World) (pB : Nat) (en : Int) (s : PSt) (r : Except Fault (NodeD × PSt)), PAt w pB en s → runP en m nt s = some r → Calls Tryz.prog f #[.pointer (some ⟨pB, 0, none⟩)] w (PEnd pB en w (NodeQ w) r)
structure PIH (m : Nat) : Prop where
  block : NTC m .block 106
  stmt : NTC m .stmt 140
  expr : NTC m .expr 172
  round : NTC m .round 173
  un : NTC m .un 219
  post : NTC m .post 201
  prim : NTC m .prim 221
theorem enter_of {P : Program} {f : FuncId} {fn : Func} (hf : P.funcs[f]? = some fn) (hn : (fn.name == "runtime.NumGoroutine") = false) (hb : fn.body.isNone = false) (fr : Array Value) (w : World) : Sem.run P (callFunc f fr) w = .ok (.enter f fr) w := by
  have h1 : ¬ fn.name = "runtime.NumGoroutine" := by simpa using hn
  have h2 : ¬ fn.body = none := by intro e; rw [e] at hb; simp at hb
  simp [callFunc, go_sem, hf, h1, h2]
theorem node_end {fn : Func} {t : Tmp} {a : Act} {w W : World} {pB q : Nat} {en : Int} {a0 a1 a2 a3 a4 a5 : Value} (n : NodeD) (v : Value) (s' : PSt) (h : fn.results = #[.cell t 79]) (ht : a.tmps.getD t undef = .pointer (some ⟨q, 0, none⟩)) (hd : a.defers = [])
    (hb : Blk W q 79 #[a0, a1, a2, a3, a4, a5]) (hq : w.heap.size ≤ q) (hp : PAt W pB en s') (hpq : pB < q) (htc : Tch pB w W) (hk : KidsAt (fun k => w.heap.size ≤ k ∧ k ≠ q) W n.kids v) :
    bodyPost Tryz.prog fn (PEnd pB en w (NodeQ w) (.ok (n, s'))) .ret a ((((((W.setCell ⟨q, 0, none⟩ (.int .i64 n.op)).setCell ⟨q, 1, none⟩ (.string (mkB n.text))).setCell ⟨q, 2, none⟩ (.string (mkB n.type))).setCell ⟨q, 3, none⟩ (.int .i64 n.n)).setCell ⟨q, 4, none⟩ v).setCell ⟨q, 5, none⟩ (.int .i64 n.at_)) := by
  refine six_go (P := fun W' => bodyPost Tryz.prog _ _ _ _ W') hb ?_
  intro W' hb6 ht6
  refine node_ret h n v ht hd hb6 rfl ⟨⟨_, rfl, ?_⟩, hp.own ht6 hpq, Tch.own htc ht6 hq hb.lt⟩
  exact (hk.own ht6 (fun h => h.2 rfl)).mono (fun k h _ => h.1)
set_option maxRecDepth 100000 in
set_option maxHeartbeats 2000000 in
theorem blockc_any (m : Nat) (H : ∀ k, k < m → NTC k .stmt 140) (w : World) (pB B : Nat) (en : Int) (s : PSt) (r : Except Fault (NodeD × PSt)) (h : PAt w pB en s) (hbx : Blk w B 86 #[.pointer (some ⟨pB, 0, none⟩)]) (hB : B ≠ pB)
    (hr : PM.bind (mustP en [[123]]) (fun _ => runP en m (.loop [] (placeP en s))) s = some r) :
    Calls Tryz.prog 139 #[.pointer (some ⟨B, 0, none⟩)] w (PEnd pB en w (NodeQ w) r) := by
  have hB2 := hbx.lt
  have cB : w.cell? ⟨B, 0, none⟩ = some (.pointer (some ⟨pB, 0, none⟩)) := hbx.cell 0
  have HP := Lib.hid h
  have HX := Lib.hid hbx
  have HR := Lib.hid hr
  clear h hbx hr
  go_enter Tryz.func139, Tryz.ntmps139
  go_wp2_with fail
  refine bind_call HR.out (fun r1 h1 => must1 _ _ pB en s r1 _ (by simp) _ _ rfl (HP.out.alloc _) h1) ?_ ?_
  · rintro fl w' rfl ht
    go_wp2_with fail
    exact ⟨rfl, rfl, Tch.trans ((Touch.refl _ _).alloc _) ht⟩
  rintro _ s1 e w1 hr h1 rfl hp ht
  have hbr : Blk w1 w.heap.size 79 zeroN := (Blk.new w _ _).tch ht (by have := HP.out.lt; omega)
  have hbx1 : Blk w1 B 86 #[.pointer (some ⟨pB, 0, none⟩)] := (HX.out.alloc _).tch ht hB
  have ht1 := Tch.trans ((Touch.refl (fun k => k = pB) w).alloc _) ht
  have hs1 := (ln_must en _ _ _ _ _ h1)
  have hsz := ht.size
  have hsz1 : w.heap.size < w1.heap.size := by simp at hsz; omega
  have cB1 : w1.cell? ⟨B, 0, none⟩ = some (.pointer (some ⟨pB, 0, none⟩)) := hbx1.cell 0
  have HP1 := Lib.hid hp
  have HT1 := Lib.hid ht1
  have HR1 := Lib.hid hr
  have HBR := Lib.hid hbr
  have HBX := Lib.hid hbx1
  clear hr h1 hp ht hbr hbx1 ht1 hsz cB HR
  go_wp2_with fail
  have hnB := Blk.new w1 79 #[.int .i64 31, .string ⟨#[]⟩, .string ⟨#[]⟩, .int .i64 0, .slice none 0 0, .int .i64 (placeP en s)]
  have hpa := HP1.out.alloc (.cells #[.int .i64 31, .string ⟨#[]⟩, .string ⟨#[]⟩, .int .i64 0, .slice none 0 0, .int .i64 (placeP en s)] 79)
  have hta := HT1.out.alloc (.cells #[.int .i64 31, .string ⟨#[]⟩, .string ⟨#[]⟩, .int .i64 0, .slice none 0 0, .int .i64 (placeP en s)] 79)
  have hra := HBR.out.alloc (.cells #[.int .i64 31, .string ⟨#[]⟩, .string ⟨#[]⟩, .int .i64 0, .slice none 0 0, .int .i64 (placeP en s)] 79)
  have hxa := HBX.out.alloc (.cells #[.int .i64 31, .string ⟨#[]⟩, .string ⟨#[]⟩, .int .i64 0, .slice none 0 0, .int .i64 (placeP en s)] 79)
  have hl0 : ([] : List NodeD).length + s1.ws.length ≤ 1000000 := by have := HP1.out.2.1; simpa using this
  go_loopg [] m (fun k wr => ∃ (kv : Value) (acc : List NodeD) (s' : PSt), k ≤ m ∧ Hid (Blk wr w1.heap.size 79 #[.int .i64 31, .string ⟨#[]⟩, .string ⟨#[]⟩, .int .i64 0, kv, .int .i64 (placeP en s)]) ∧ Hid (KidsOwn (w1.heap.size + 1) wr kv acc) ∧ Hid (runP en k (.loop acc (placeP en s)) s' = some r) ∧ Hid (PAt wr pB en s') ∧ Hid (Tch pB w wr) ∧ Hid (Blk wr w.heap.size 79 zeroN) ∧ Hid (Blk wr B 86 #[.pointer (some ⟨pB, 0, none⟩)]) ∧ acc.length + s'.ws.length ≤ 1000000)
  case atStart => exact ⟨_, [], s1, Nat.le_refl _, hnB, KidsOwn.nil _ _, HR1, hpa, hta, hra, hxa, hl0⟩
  case round =>
    clear hnB hpa hta hra hxa hl0 cB1
    obtain ⟨kv, acc, s', hk, HN, HK, HRn, HPn, HTn, HRr, HXx, hlen⟩ := hrel
    have cB : wr.cell? ⟨B, 0, none⟩ = some (.pointer (some ⟨pB, 0, none⟩)) := HXx.out.cell 0
    cases gk with
    | zero => exact absurd HRn.out (by simp [runP])
    | succ k =>
      have hr := HRn.out
      rw [runP] at hr
      dsimp only at hr
      cases ha : aheadP s' 0 [125] with
      | true =>
        rw [if_pos ha] at hr
        have hm := Lib.hid (may_yes wr pB en s' ⟨#[125]⟩ _ rfl HPn.out ha)
        obtain rfl : r = .ok (.mk 31 [] [] 0 acc (placeP en s), nextP s') := by simpa using hr.symm
        clear hr ha
        go_wp2_with fail
        refine hm.out.mono ?_
        rintro e w2 ⟨rfl, hp, ht⟩
        have n2 := HN.out.tch ht.out (by have := HP.out.lt; omega)
        obtain ⟨c0, c1, c2, c3, c4, c5, cf, cl⟩ := n2.six
        have rb2 := HRr.out.tch ht.out (by have := HP.out.lt; omega)
        obtain ⟨r0, r1, r2, r3, r4, r5, rf, rl⟩ := rb2.six
        obtain ⟨ao, c, rfl⟩ := HK.out.form
        go_wp2_with fail
        refine node_end (.mk 31 [] [] 0 acc (placeP en s)) _ _ rfl rfl rfl rb2 (Nat.le_refl _) hp.out (by have := HP.out.lt; omega) (HTn.out.trans ht.out) ?_
        exact ((HK.out.touch ht.out (fun k hk => by have := HP.out.lt; omega)).kids).mono (fun k h _ => ⟨by omega, by omega⟩)
      | false =>
        rw [if_neg (by rw [ha]; decide)] at hr
        have hm := Lib.hid (may_no wr pB en s' ⟨#[125]⟩ _ rfl HPn.out ha)
        clear ha
        obtain ⟨ps, hps, ho, hkk⟩ := HK.out
        have HPS := Lib.hid hps
        have HO := Lib.hid ho
        have HKK := Lib.hid hkk
        have HR := Lib.hid hr
        clear hr hps ho hkk
        go_wp2_with fail
        refine hm.out.mono ?_
        rintro e w2 ⟨rfl, rfl⟩
        have c4 : wr.drew.cell? ⟨w1.heap.size, 4, none⟩ = some kv := HN.out.cell 4
        have cBd : wr.drew.cell? ⟨B, 0, none⟩ = some (.pointer (some ⟨pB, 0, none⟩)) := cB
        obtain ⟨i0, hi0, hz0, hz1, hz2⟩ := info_of node_info
        have hpl := HP.out.lt
        have hne1 : w1.heap.size ≠ pB := by omega
        have HNd := Lib.hid HN.out.drew
        have HXd := Lib.hid HXx.out.drew
        have hown : ∀ w2 o, Hid (Tch pB wr.drew w2) → (w2.alloc o).ownsRow (w1.heap.size + 1) 79 6 kv acc.length (ps.flatMap fun p => ncells p.1 p.2) := fun w2 o ht => by
          have h2 : RowAt w2 (fun i => w1.heap.size + 1 ≤ i) 79 6 kv acc.length (ps.flatMap fun p => ncells p.1 p.2) := RowAt.touch (W := wr.drew) ⟨⟨HO.out.1, by
            rcases HO.out.2 with h | ⟨g, cap, cur, e, hg, r⟩
            · exact .inl h
            · exact .inr ⟨g, cap, cur, e, Nat.zero_le _, r⟩⟩, fun k hk => (HO.out.lt k hk).1⟩ ht.out (fun k h1 h2 => by omega)
          refine World.ownsRow.alloc ⟨h2.1.1, ?_⟩ o
          rcases h2.1.2 with h | ⟨g, cap, cur, e, hg, r⟩
          · exact .inl h
          · exact .inr ⟨g, cap, cur, e, h2.2 g (by rw [e]; rfl), r⟩
        have hbase : w1.heap.size + 1 ≤ wr.drew.heap.size := HNd.out.lt
        have hnk : ∀ q, q ≤ w1.heap.size → some q ≠ kv.ownBlock := fun q hq e => by have := (HO.out.lt q e.symm).1; omega
        go_wp2_with fail
        go_region_law (first
          | (go_simp; go_at_call 140; go_loud (refine bind_call HR.out (fun r1 h1 => H k (by omega) wr.drew pB en s' _ HPn.out.drew h1) (fun fl w' hre ht => by subst hre; go_wp2_with fail; exact ⟨rfl, rfl, Tch.trans HTn.out.drew ht⟩) ?_; rintro a s2 e w2 h2 h1 ⟨kv2, rfl, hk2⟩ hp2 ht2; obtain ⟨ka, kc, rfl⟩ := hk2.form; have n2 := HNd.out.tch ht2 hne1; have x2 := HXd.out.tch ht2 hB; have d4 : _ = some kv := n2.cell 4; have dA : ∀ o, (w2.alloc o).cell? ⟨w1.heap.size, 4, none⟩ = some kv := fun o => (n2.alloc o).cell 4; have dB : _ = some (Value.pointer (some ⟨pB, 0, none⟩)) := x2.cell 0; have HS2 := Lib.hid (ln_run en k .stmt trivial _ _ _ h1); have HR2 := Lib.hid h2; have HK2 := Lib.hid hk2; have HP2 := Lib.hid hp2; have HT2 := Lib.hid ht2; have HN2 := Lib.hid n2; have HX2 := Lib.hid x2; clear hk2 hp2 ht2 n2 x2 h1 h2))
          | (go_loud (refine step_append_lies _ rfl (.tmp 11) (.tmp 14) 77 rfl (w1.heap.size + 1) 79 i0 (.agg #[.int .i64 0, .string ⟨#[]⟩, .string ⟨#[]⟩, .int .i64 0, .slice none 0 0, .int .i64 0]) 6 80 Tryz.underlying77 hi0 hz0 hz1 hz2 rfl (by decide) kv acc.length _ (by rfl) (hown _ _ HT2) ⟨w2.heap.size, 0, none⟩ 1 1 (ncells a (.slice ka a.kids.length kc)) (by rfl) (by rfl) (news_at _ _ (ncells a (.slice ka a.kids.length kc))) (by simp [ncells, Value.oneCell']) (by omega) (by unfold maxLen; omega) (by omega) (by have := HT2.out.size; simp; omega) _ (by rfl) ?_; intro g cap w3 ho3 hg3 hat3 hlt3; have n3 := (HN2.out.alloc _).kept hg3 (hnk _ (Nat.le_refl _)); have e4 : _ = some kv := n3.cell 4; have ef := n3.frozen 4; have HN3 := Lib.hid n3; have HO3 := Lib.hid ho3; have HG3 := Lib.hid hg3; have HAT3 := Lib.hid hat3; clear n3 ho3 hg3 hat3)))
        all_goals (go_wp2_with fail)
        all_goals (go_roundg k)
        all_goals first | omega | skip
        all_goals
          have hk3 := KidsOwn.appended (w1 := w2) HPS.out (fun p hp => (HKK.out p hp).keep (W' := w2) (fun _ h _ => h) (fun i hi hl => HT2.out.block i hl (by omega))) (HK2.out.mono (fun i h hl => ⟨by omega, fun e => by have := (HO.out.lt i e.symm).2; have : wr.drew.heap.size ≤ i := h; simp only [World.drew] at this; omega⟩)) HO3.out HG3.out (HAT3.out.elim (fun e => .inl e.symm) (fun e => .inr (congrArg some e)))
          have hsz2 := HT2.out.size
          have hfin : ∀ {q : Nat} {T : TypeId} {cs : Array Value}, q < w1.heap.size → q ≠ pB → Blk wr q T cs → Blk (w3.setCell ⟨w1.heap.size, 4, none⟩ (.slice (some ⟨g, 0, none⟩) (acc.length + 1) cap)) q T cs := fun hq hp hb => (((Blk.drew hb).tch HT2.out hp).alloc _ |>.kept HG3.out (hnk _ (by omega))).other (by omega) 4 _
          refine ⟨_, acc ++ [a], s2, by omega, Lib.hid (by simpa using HN3.out.set 4 (.slice (some ⟨g, 0, none⟩) (acc.length + 1) cap)), Lib.hid (hk3.touch ((Touch.refl (fun i => i = w1.heap.size) w3).setCell (p := ⟨w1.heap.size, 4, none⟩) (.inl rfl) _) (fun k hk => by omega)), HR2, Lib.hid ?_, Lib.hid ?_, Lib.hid (hfin hsz1 (by omega) HRr.out), Lib.hid (hfin (by omega) hB HXx.out), ?_⟩
          · exact ((HP2.out.alloc _).block (fun i hi => HG3.out.block i (by have := HP2.out.lt; simp; omega) (hnk i (by omega)))).setCell (by omega) 4 _
          · exact (((Tch.trans HTn.out.drew HT2.out).alloc _).grown HG3.out (fun i e => .inr ⟨by have := (HO.out.lt i e).1; omega, by have := (HO.out.lt i e).2; simp only [World.drew] at hsz2; simp; omega⟩)).setCell (p := ⟨w1.heap.size, 4, none⟩) (.inr ⟨Nat.le_of_lt hsz1, HN3.out.lt⟩) _
          · have := HS2.out
            simp only [List.length_append, List.length_singleton]
            omega
set_option maxRecDepth 100000 in
set_option maxHeartbeats 2000000 in
theorem block_any (m : Nat) (H : ∀ k, k < m → NTC k .stmt 140) : NTC m .block 106 := by
  intro w pB en s r h hr
  cases m with
  | zero => simp [runP] at hr
  | succ m =>
    rw [runP] at hr
    have HP := Lib.hid h
    have HR := Lib.hid hr
    clear h hr
    go_enter Tryz.func106, Tryz.ntmps106
    go_wp2_with fail
    have hpl := HP.out.lt
    have hbx : Blk ((w.alloc (.cells #[.pointer (some ⟨pB, 0, none⟩)] 86)).alloc (.cells zeroN 79)) w.heap.size 86 #[.pointer (some ⟨pB, 0, none⟩)] := (Blk.new w _ _).alloc _
    have hrs : Blk ((w.alloc (.cells #[.pointer (some ⟨pB, 0, none⟩)] 86)).alloc (.cells zeroN 79)) (w.heap.size + 1) 79 zeroN := by simpa using Blk.new (w.alloc (.cells #[.pointer (some ⟨pB, 0, none⟩)] 86)) 79 zeroN
    have hp2 : PAt ((w.alloc (.cells #[.pointer (some ⟨pB, 0, none⟩)] 86)).alloc (.cells zeroN 79)) pB en s := (HP.out.alloc _).alloc _
    have ht2 : Tch pB w ((w.alloc (.cells #[.pointer (some ⟨pB, 0, none⟩)] 86)).alloc (.cells zeroN 79)) := ((Touch.refl _ _).alloc _).alloc _
    have hsz : ((w.alloc (.cells #[.pointer (some ⟨pB, 0, none⟩)] 86)).alloc (.cells zeroN 79)).heap.size = w.heap.size + 1 + 1 := by simp
    refine (down_any _ pB en s r _ 139 #[.pointer (some ⟨w.heap.size, 0, none⟩)] (enter_of Tryz.func139 (by kernel_rfl) (by kernel_rfl) _) hp2 HR.out ?_ ?_).mono ?_
    · exact mn_at (F := fun q => PM.bind (mustP en [[123]]) (fun _ => runP en m (.loop [] (placeP en q)))) (fun q => Mn.bind (mn_must en _) (fun _ => mn_run en m _))
    · exact fun w1 r1 hp1 ht1 hr1 => blockc_any m (fun k hk => H k (by omega)) w1 pB w.heap.size en _ r1 hp1 (hbx.tch ht1 (by omega)) (by omega) hr1
    · rintro e w1 hE
      cases r with
      | error f =>
        obtain ⟨rfl, ht⟩ := hE
        go_wp2_with fail
        exact ⟨rfl, rfl, Tch.trans ht2 ht⟩
      | ok x =>
        obtain ⟨n, s'⟩ := x
        obtain ⟨⟨v, rfl, hk⟩, hp, ht⟩ := hE
        have hr1 := hrs.tch ht (by omega)
        obtain ⟨ka, kc, rfl⟩ := hk.form
        obtain ⟨r0, r1, r2, r3, r4, r5, rf, rl⟩ := hr1.six
        have HE := Lib.hid (And.intro hk (And.intro hp (And.intro ht hr1)))
        clear hk hp ht hr1
        go_wp2_with fail
        obtain ⟨hk, hp, ht, hr1⟩ := HE.out
        refine node_end n _ s' rfl rfl rfl hr1 (by omega) hp (by omega) (Tch.trans ht2 ht) ?_
        exact hk.mono (fun k h _ => ⟨by omega, by omega⟩)
end Go.Proofs.YtcaigcmbgihhkaaGreatDoor
namespace Go.Proofs.YtcaigcmbgihhkaaGreatDoor
open Go Go.RowKit Go.Shelf
set_option linter.unusedVariables false
set_option linter.unusedSimpArgs false
attribute [local go_sem] Oper.semAt_some
structure Rd (pB : Nat) (en : Int) (w : World) (Ls : List (Nat × TypeId × Array Value)) (Ks : List (List NodeD × Value)) (W : World) (s : PSt) : Prop where
  pat : PAt W pB en s
  tch : Tch pB w W
  blk : ∀ x ∈ Ls, Blk W x.1 x.2.1 x.2.2 ∧ w.heap.size ≤ x.1
  kid : ∀ x ∈ Ks, KidsAt (fun k => w.heap.size ≤ k ∧ ∀ y ∈ Ls, k ≠ y.1) W x.1 x.2
  plt : pB < w.heap.size
variable {pB : Nat} {en : Int} {w W W' : World} {Ls : List (Nat × TypeId × Array Value)} {Ks : List (List NodeD × Value)} {s s' : PSt}
theorem Rd.start (h : PAt w pB en s) : Rd pB en w [] [] w s := ⟨h, Touch.refl _ _, fun x hx => by simp at hx, fun x hx => by simp at hx, h.lt⟩
theorem Rd.size (h : Rd pB en w Ls Ks W s) : w.heap.size ≤ W.heap.size := h.tch.size
theorem Rd.wlt (h : Rd pB en w Ls Ks W s) : pB < W.heap.size := Nat.lt_of_lt_of_le h.plt h.size
theorem Rd.drew (h : Rd pB en w Ls Ks W s) : Rd pB en w Ls Ks W.drew s := ⟨h.pat.drew, h.tch.drew, h.blk, fun x hx => (h.kid x hx).drew, h.plt⟩
theorem Rd.drewN (h : Rd pB en w Ls Ks W s) (n : Nat) : Rd pB en w Ls Ks (W.drewN n) s := ⟨h.pat.drewN n, h.tch.drewN n, h.blk, fun x hx => (h.kid x hx).drewN n, h.plt⟩
theorem Rd.alloc0 (h : Rd pB en w Ls Ks W s) (o : Obj) : Rd pB en w Ls Ks (W.alloc o) s := ⟨h.pat.alloc o, h.tch.alloc o, fun x hx => ⟨(h.blk x hx).1.alloc o, (h.blk x hx).2⟩, fun x hx => (h.kid x hx).alloc o, h.plt⟩
theorem Rd.alloc (h : Rd pB en w Ls Ks W s) (T : TypeId) (cs : Array Value) : Rd pB en w ((W.heap.size, T, cs) :: Ls) Ks (W.alloc (.cells cs T)) s := by
  refine ⟨h.pat.alloc _, h.tch.alloc _, fun x hx => ?_, fun x hx => ((h.kid x hx).mono (fun k hk hl => ⟨hk.1, fun y hy => ?_⟩)).alloc _, h.plt⟩
  · rcases List.mem_cons.1 hx with rfl | hx
    · exact ⟨Blk.new W T cs, h.size⟩
    · exact ⟨(h.blk x hx).1.alloc _, (h.blk x hx).2⟩
  · rcases List.mem_cons.1 hy with rfl | hy
    · show k ≠ W.heap.size
      omega
    · exact hk.2 y hy
theorem Rd.alloc' (h : Rd pB en w Ls Ks W s) (T : TypeId) (cs : Array Value) (q : Nat) (hq : q = W.heap.size) : Rd pB en w ((q, T, cs) :: Ls) Ks (W.alloc (.cells cs T)) s := by
  subst hq; exact h.alloc T cs
theorem Rd.call (h : Rd pB en w Ls Ks W s) (hp : PAt W' pB en s') (ht : Tch pB W W') : Rd pB en w Ls Ks W' s' := by
  refine ⟨hp, Tch.trans h.tch ht, fun x hx => ⟨(h.blk x hx).1.tch ht (by have := (h.blk x hx).2; have := h.plt; omega), (h.blk x hx).2⟩, fun x hx => (h.kid x hx).tch ht (fun hk => by have := h.plt; have := hk.1; omega), h.plt⟩
theorem Rd.keep (h : Rd pB en w Ls Ks W s) {ks : List NodeD} {v : Value} (hk : KidsAt (fun k => w.heap.size ≤ k ∧ ∀ y ∈ Ls, k ≠ y.1) W ks v) : Rd pB en w Ls ((ks, v) :: Ks) W s :=
  ⟨h.pat, h.tch, h.blk, fun x hx => by
    rcases List.mem_cons.1 hx with rfl | hx
    · exact hk
    · exact h.kid x hx, h.plt⟩
theorem Rd.node (h : Rd pB en w Ls Ks W s) (hp : PAt W' pB en s') (ht : Tch pB W W') {ks : List NodeD} {v : Value} (hk : KidsAt (fun k => W.heap.size ≤ k) W' ks v) : Rd pB en w Ls ((ks, v) :: Ks) W' s' :=
  (h.call hp ht).keep (hk.mono (fun k hk _ => ⟨Nat.le_trans h.size hk, fun y hy => by have := (h.blk y hy).1.lt; omega⟩))
theorem Rd.drop (h : Rd pB en w Ls Ks W s) {Ks' : List (List NodeD × Value)} (hs : ∀ x ∈ Ks', x ∈ Ks) : Rd pB en w Ls Ks' W s := ⟨h.pat, h.tch, h.blk, fun x hx => h.kid x (hs x hx), h.plt⟩
theorem Rd.set {q : Nat} {T : TypeId} {cs : Array Value} (h : Rd pB en w ((q, T, cs) :: Ls) Ks W s) (hd : ∀ y ∈ Ls, y.1 ≠ q) (i : Nat) (u : Value) : Rd pB en w ((q, T, cs.setIfInBounds i u) :: Ls) Ks (W.setCell ⟨q, i, none⟩ u) s := by
  have hb := h.blk _ (List.mem_cons_self ..)
  have hb1 : Blk W q T cs := hb.1
  have hb2 : w.heap.size ≤ q := hb.2
  refine ⟨h.pat.setCell (by have := h.plt; omega) i u, Touch.setCell (p := ⟨q, i, none⟩) h.tch (.inr ⟨hb2, hb1.lt⟩) u, fun x hx => ?_, fun x hx => ?_, h.plt⟩
  · rcases List.mem_cons.1 hx with rfl | hx
    · exact ⟨hb1.set i u, hb2⟩
    · have := h.blk x (List.mem_cons_of_mem _ hx)
      exact ⟨this.1.other (hd x hx) i u, this.2⟩
  · have := (h.kid x hx).setCell (q := q) (fun hk => hk.2 _ (List.mem_cons_self ..) rfl) i u
    refine this.mono (fun k hk _ => ⟨hk.1, fun y hy => ?_⟩)
    rcases List.mem_cons.1 hy with rfl | hy
    · exact hk.2 (q, T, cs) (List.mem_cons_self ..)
    · exact hk.2 y (List.mem_cons_of_mem _ hy)
theorem Rd.six {q : Nat} {T : TypeId} {a0 a1 a2 a3 a4 a5 a b c d e f : Value} {P : World → Prop} (h : Rd pB en w ((q, T, #[a0, a1, a2, a3, a4, a5]) :: Ls) Ks W s) (hd : ∀ y ∈ Ls, y.1 ≠ q) (k : ∀ W', Rd pB en w ((q, T, #[a, b, c, d, e, f]) :: Ls) Ks W' s → P W') :
    P ((((((W.setCell ⟨q, 0, none⟩ a).setCell ⟨q, 1, none⟩ b).setCell ⟨q, 2, none⟩ c).setCell ⟨q, 3, none⟩ d).setCell ⟨q, 4, none⟩ e).setCell ⟨q, 5, none⟩ f) := by
  refine k _ ?_
  have := (((((h.set hd 0 a).set hd 1 b).set hd 2 c).set hd 3 d).set hd 4 e).set hd 5 f
  simpa using this
theorem Rd.row1 {T : TypeId} {a : NodeD} {v : Value} (h : Rd pB en w Ls ((a.kids, v) :: Ks) W s) (q : Nat) (hq : q = W.heap.size) : Rd pB en w Ls (([a], .slice (some ⟨q, 0, none⟩) 1 1) :: (a.kids, v) :: Ks) (W.alloc (.cells #[.int .i64 a.op, .string (mkB a.text), .string (mkB a.type), .int .i64 a.n, v, .int .i64 a.at_] T)) s := by
  subst hq
  refine (h.alloc0 _).keep ?_
  refine KidsAt.row [(a, v)] W.heap.size 1 1 rfl (fun _ => ⟨h.size, fun y hy => by have := (h.blk y hy).1.lt; omega⟩) (Nat.le_refl _) (by simp [maxLen]) (fun p hp => ?_) (fun i u hu => ?_)
  · simp only [List.mem_singleton] at hp
    subst hp
    exact (h.kid _ (List.mem_cons_self ..)).alloc _
  · rw [(Blk.new W _ _).cell]
    simpa [ncells] using hu
theorem Rd.row2 {T : TypeId} {a a' : NodeD} {v v' : Value} (h : Rd pB en w Ls ((a'.kids, v') :: (a.kids, v) :: Ks) W s) (q : Nat) (hq : q = W.heap.size) :
    Rd pB en w Ls (([a, a'], .slice (some ⟨q, 0, none⟩) 2 2) :: (a'.kids, v') :: (a.kids, v) :: Ks) (W.alloc (.cells #[.int .i64 a.op, .string (mkB a.text), .string (mkB a.type), .int .i64 a.n, v, .int .i64 a.at_, .int .i64 a'.op, .string (mkB a'.text), .string (mkB a'.type), .int .i64 a'.n, v', .int .i64 a'.at_] T)) s := by
  subst hq
  refine (h.alloc0 _).keep ?_
  refine KidsAt.row [(a, v), (a', v')] W.heap.size 2 2 rfl (fun _ => ⟨h.size, fun y hy => by have := (h.blk y hy).1.lt; omega⟩) (Nat.le_refl _) (by simp [maxLen]) (fun p hp => ?_) (fun i u hu => ?_)
  · rcases List.mem_cons.1 hp with rfl | hp
    · exact (h.kid _ (List.mem_cons_of_mem _ (List.mem_cons_self ..))).alloc _
    · simp only [List.mem_singleton] at hp
      subst hp
      exact (h.kid _ (List.mem_cons_self ..)).alloc _
  · rw [(Blk.new W _ _).cell]
    simpa [ncells] using hu
theorem Rd.place (h : Rd pB en w Ls Ks W s) : Calls Tryz.prog 100 #[.pointer (some ⟨pB, 0, none⟩)] W fun e w' => e = .returned (.int .i64 (placeP en s)) ∧ W = w' := place_any W pB en s h.pat
theorem Rd.mayY (h : Rd pB en w Ls Ks W s) {b : ByteArray} {t : Bs} (hb : bl b = t) (ha : aheadP s 0 t = true) : Calls Tryz.prog 70 #[.pointer (some ⟨pB, 0, none⟩), .string b] W fun e w' => e = .returned (.bool true) ∧ Hid (Rd pB en w Ls Ks w' (nextP s)) :=
  (may_yes W pB en s b t hb h.pat ha).mono fun e w' ⟨h1, h2, h3⟩ => ⟨h1, Lib.hid (h.call h2.out h3.out)⟩
theorem Rd.mayN (h : Rd pB en w Ls Ks W s) {b : ByteArray} {t : Bs} (hb : bl b = t) (ha : aheadP s 0 t = false) : Calls Tryz.prog 70 #[.pointer (some ⟨pB, 0, none⟩), .string b] W fun e w' => e = .returned (.bool false) ∧ W = w' := may_no W pB en s b t hb h.pat ha
theorem Rd.ahead (h : Rd pB en w Ls Ks W s) (k : Nat) (hk : k ≤ 10) {b : ByteArray} {t : Bs} (hb : bl b = t) {q : Bool} (ha : aheadP s k t = q) : Calls Tryz.prog 104 #[.pointer (some ⟨pB, 0, none⟩), .int .i64 (k : Int), .string b] W fun e w' => e = .returned (.bool q) ∧ W = w' := by
  subst hb ha
  exact ahead_any W pB en s k hk b h.pat
theorem Rd.kind (h : Rd pB en w Ls Ks W s) (k : Int) {q : Bool} (ha : kindP s k = q) : Calls Tryz.prog 102 #[.pointer (some ⟨pB, 0, none⟩), .int .i64 k] W fun e w' => e = .returned (.bool q) ∧ W = w' := by
  subst ha
  exact kind_any W pB en s k h.pat
theorem Rd.next {x : WordD} {l : List WordD} (h : Rd pB en w Ls Ks W s) (hs : s.ws = x :: l) : Calls Tryz.prog 103 #[.pointer (some ⟨pB, 0, none⟩)] W fun e w' => e = .returned (.agg #[.int .i64 x.kind, .string (mkB x.text), .int .i64 x.n, .int .i64 x.at_]) ∧ Hid (Rd pB en w Ls Ks w' (nextP s)) := by
  obtain ⟨ws, dp⟩ := s
  dsimp only at hs
  subst hs
  exact (next_any W pB en x l dp h.pat).mono fun e w' ⟨h1, h2, h3⟩ => ⟨h1, Lib.hid (h.call h2 h3)⟩
variable {β : Type} {r : Except Fault (β × PSt)} {Φ : Ending → World → Prop}
theorem Rd.must (h : Rd pB en w Ls Ks W s) {f : Unit → PM β} {t : Bs} (hr : PM.bind (mustP en [t]) f s = some r) {T : TypeId} {q : Nat} {b : ByteArray} (hq : q = W.heap.size) (hb : bl b = t)
    (hE : ∀ fl w', r = .error fl → Tch pB w w' → Φ (.panicked (faultC fl)) w') (hK : ∀ s' w', f () s' = some r → s'.ws.length < s.ws.length → Hid (Rd pB en w Ls Ks w' s') → Φ (.returned (.int .i64 (placeP en s))) w') :
    Calls Tryz.prog 68 #[.pointer (some ⟨pB, 0, none⟩), .slice (some ⟨q, 0, none⟩) 1 1] (W.alloc (.cells #[.string b] T)) Φ := by
  refine bind_call hr (fun r1 h1 => must1 W T pB en s r1 q hq b t hb h.pat h1) (fun fl w' e ht => hE fl w' e (Tch.trans h.tch ht)) ?_
  rintro a s' e w' h2 h1 rfl hp ht
  exact hK s' w' h2 (ln_must en _ _ _ _ _ h1) (Lib.hid (h.call hp ht))
theorem Rd.musts (h : Rd pB en w Ls Ks W s) {f : Unit → PM β} {t1 t2 : Bs} (hr : PM.bind (mustP en [t1, t2]) f s = some r) {T : TypeId} {q : Nat} {b1 b2 : ByteArray} (hq : q = W.heap.size) (hb1 : bl b1 = t1) (hb2 : bl b2 = t2)
    (hE : ∀ fl w', r = .error fl → Tch pB w w' → Φ (.panicked (faultC fl)) w') (hK : ∀ s' w', f () s' = some r → s'.ws.length < s.ws.length → Hid (Rd pB en w Ls Ks w' s') → Φ (.returned (.int .i64 (placeP en s))) w') :
    Calls Tryz.prog 68 #[.pointer (some ⟨pB, 0, none⟩), .slice (some ⟨q, 0, none⟩) 2 2] (W.alloc (.cells #[.string b1, .string b2] T)) Φ := by
  refine bind_call hr (fun r1 h1 => must2 W T pB en s r1 q hq b1 b2 t1 t2 hb1 hb2 h.pat h1) (fun fl w' e ht => hE fl w' e (Tch.trans h.tch ht)) ?_
  rintro a s' e w' h2 h1 rfl hp ht
  exact hK s' w' h2 (ln_must en _ _ _ _ _ h1) (Lib.hid (h.call hp ht))
theorem Rd.name (h : Rd pB en w Ls Ks W s) {f : Bs × Int → PM β} (hr : PM.bind (nameP en) f s = some r)
    (hE : ∀ fl w', r = .error fl → Tch pB w w' → Φ (.panicked (faultC fl)) w') (hK : ∀ a s' w', f a s' = some r → s'.ws.length < s.ws.length → Hid (Rd pB en w Ls Ks w' s') → Φ (.returned (.tuple #[.string (mkB a.1), .int .i64 a.2])) w') :
    Calls Tryz.prog 69 #[.pointer (some ⟨pB, 0, none⟩)] W Φ := by
  refine bind_call hr (fun r1 h1 => name_any W pB en s r1 h.pat h1) (fun fl w' e ht => hE fl w' e (Tch.trans h.tch ht)) ?_
  rintro a s' e w' h2 h1 rfl hp ht
  exact hK a s' w' h2 (ln_name en _ _ _ h1) (Lib.hid (h.call hp ht))
theorem Rd.part (h : Rd pB en w Ls Ks W s) {f : Bs → PM β} (hr : PM.bind (partP en) f s = some r)
    (hE : ∀ fl w', r = .error fl → Tch pB w w' → Φ (.panicked (faultC fl)) w') (hK : ∀ a s' w', f a s' = some r → s'.ws.length < s.ws.length → Hid (Rd pB en w Ls Ks w' s') → Φ (.returned (.string (mkB a))) w') :
    Calls Tryz.prog 137 #[.pointer (some ⟨pB, 0, none⟩)] W Φ := by
  refine bind_call hr (fun r1 h1 => part_any W pB en s r1 h.pat h1) (fun fl w' e ht => hE fl w' e (Tch.trans h.tch ht)) ?_
  rintro a s' e w' h2 h1 ⟨rfl, _⟩ hp ht
  exact hK a s' w' h2 (ln_part en _ _ _ h1) (Lib.hid (h.call hp ht))
theorem Rd.whole (h : Rd pB en w Ls Ks W s) {f : Bs → PM β} (hr : PM.bind (wholeP en) f s = some r)
    (hE : ∀ fl w', r = .error fl → Tch pB w w' → Φ (.panicked (faultC fl)) w') (hK : ∀ a s' w', f a s' = some r → s'.ws.length < s.ws.length → Hid (Rd pB en w Ls Ks w' s') → Φ (.returned (.string (mkB a))) w') :
    Calls Tryz.prog 105 #[.pointer (some ⟨pB, 0, none⟩)] W Φ := by
  refine bind_call hr (fun r1 h1 => whole_any W pB en s r1 h.pat h1) (fun fl w' e ht => hE fl w' e (Tch.trans h.tch ht)) ?_
  rintro a s' e w' h2 h1 ⟨rfl, _⟩ hp ht
  exact hK a s' w' h2 (ln_whole en _ _ _ h1) (Lib.hid (h.call hp ht))
theorem Rd.nt (h : Rd pB en w Ls Ks W s) {f : NodeD → PM β} {m : Nat} {nt : NT} {fn : Nat} {args : Array Value} (hr : PM.bind (runP en m nt) f s = some r) (C : ∀ r1, runP en m nt s = some r1 → Calls Tryz.prog fn args W (PEnd pB en W (NodeQ W) r1)) (hs : strictN nt)
    (hE : ∀ fl w', r = .error fl → Tch pB w w' → Φ (.panicked (faultC fl)) w')
    (hK : ∀ a v s' w', f a s' = some r → s'.ws.length < s.ws.length → Hid (Rd pB en w Ls ((a.kids, v) :: Ks) w' s') → (∃ ka kc, v = .slice ka a.kids.length kc) → Φ (.returned (.agg #[.int .i64 a.op, .string (mkB a.text), .string (mkB a.type), .int .i64 a.n, v, .int .i64 a.at_])) w') : Calls Tryz.prog fn args W Φ := by
  refine bind_call hr C (fun fl w' e ht => hE fl w' e (Tch.trans h.tch ht)) ?_
  rintro a s' e w' h2 h1 ⟨v, rfl, hk⟩ hp ht
  exact hK a v s' w' h2 (ln_run en m nt hs _ _ _ h1) (Lib.hid (h.node hp ht hk)) hk.form
theorem Rd.fin {fn : Func} {t : Tmp} {a : Act} {q : Nat} {a0 a1 a2 a3 a4 a5 : Value} (n : NodeD) (v : Value) (h : Rd pB en w Ls Ks W s') (hres : fn.results = #[.cell t 79]) (ht : a.tmps.getD t undef = .pointer (some ⟨q, 0, none⟩)) (hd : a.defers = [])
    (hb : (q, 79, #[a0, a1, a2, a3, a4, a5]) ∈ Ls) (hk : (n.kids, v) ∈ Ks) :
    bodyPost Tryz.prog fn (PEnd pB en w (NodeQ w) (.ok (n, s'))) .ret a ((((((W.setCell ⟨q, 0, none⟩ (.int .i64 n.op)).setCell ⟨q, 1, none⟩ (.string (mkB n.text))).setCell ⟨q, 2, none⟩ (.string (mkB n.type))).setCell ⟨q, 3, none⟩ (.int .i64 n.n)).setCell ⟨q, 4, none⟩ v).setCell ⟨q, 5, none⟩ (.int .i64 n.at_)) := by
  have hb' := h.blk _ hb
  exact node_end n v s' hres ht hd hb'.1 hb'.2 h.pat (Nat.lt_of_lt_of_le h.plt hb'.2) h.tch ((h.kid _ hk).mono (fun k hk _ => ⟨hk.1, hk.2 _ hb⟩))
theorem Rd.six6 {q : Nat} {T : TypeId} {cs : Array Value} (h : Rd pB en w Ls Ks W s) (hm : (q, T, cs) ∈ Ls) : Blk W q T cs := (h.blk _ hm).1
end Go.Proofs.YtcaigcmbgihhkaaGreatDoor
namespace Go.Proofs.YtcaigcmbgihhkaaGreatDoor
open Go Go.RowKit Go.Shelf
set_option linter.unusedVariables false
set_option linter.unusedSimpArgs false
attribute [local go_sem] Oper.semAt_some
set_option maxRecDepth 100000 in
set_option maxHeartbeats 2000000 in
theorem round_any (m : Nat) (H : ∀ k, k < m → NTC k .expr 172) : NTC m .round 173 := by
  intro w pB en s r h hr
  cases m with
  | zero => simp [runP] at hr
  | succ m =>
    rw [runP] at hr
    have HR := Lib.hid hr
    have R0 := Lib.hid (((Rd.start h).alloc 79 zeroN))
    clear h hr
    go_enter Tryz.func173, Tryz.ntmps173
    go_wp2_with fail
    refine R0.out.must HR.out (by simp) rfl (fun fl w' e ht => ?_) (fun s1 w1 hr1 hl1 R1 => ?_)
    · subst e; go_wp2_with fail; exact ⟨rfl, rfl, ht⟩
    have HR1 := Lib.hid hr1
    clear hr1
    go_wp2_with fail
    refine R1.out.nt HR1.out (fun r1 h1 => H m (by omega) w1 pB en s1 r1 R1.out.pat h1) trivial (fun fl w' e ht => ?_) (fun a v s2 w2 hr2 hl2 R2 hv => ?_)
    · subst e; go_wp2_with fail; exact ⟨rfl, rfl, ht⟩
    obtain ⟨ka, kc, rfl⟩ := hv
    have HR2 := Lib.hid hr2
    clear hr2
    go_wp2_with fail
    refine (R2.out.alloc 79 _).must HR2.out (by simp) rfl (fun fl w' e ht => ?_) (fun s3 w3 hr3 hl3 R3 => ?_)
    · subst e; go_wp2_with fail; exact ⟨rfl, rfl, ht⟩
    obtain rfl : r = .ok (a, s3) := by simpa [PM.pure] using hr3.symm
    obtain ⟨n0, n1, n2, n3, n4, n5, nf, nl⟩ := (R3.out.six6 (.head _)).six
    obtain ⟨r0, r1, r2, r3, r4, r5, rf, rl⟩ := (R3.out.six6 (.tail _ (.head _))).six
    clear hr3
    go_wp2_with fail
    exact R3.out.fin a _ rfl rfl rfl (.tail _ (.head _)) (.head _)
def RankC (m : Nat) : Prop := ∀ (kk : Nat), kk ≤ 5 → ∀ (w : World) (pB : Nat) (en : Int) (s : PSt) (r : Except Fault (NodeD × PSt)), PAt w pB en s → runP en m (.rank kk) s = some r → Calls Tryz.prog 200 #[.pointer (some ⟨pB, 0, none⟩), .int .i64 (kk : Int)] w (PEnd pB en w (NodeQ w) r)
set_option maxRecDepth 100000 in
set_option maxHeartbeats 2000000 in
theorem exprc_any (m : Nat) (H : RankC m) (w : World) (pB B : Nat) (en : Int) (s : PSt) (r : Except Fault (NodeD × PSt)) (h : PAt w pB en s) (hbx : Blk w B 86 #[.pointer (some ⟨pB, 0, none⟩)]) (hB : B ≠ pB) (hr : runP en m (.rank 0) s = some r) :
    Calls Tryz.prog 199 #[.pointer (some ⟨B, 0, none⟩)] w (PEnd pB en w (NodeQ w) r) := by
  have cB : w.cell? ⟨B, 0, none⟩ = some (.pointer (some ⟨pB, 0, none⟩)) := hbx.cell 0
  have R0 := Lib.hid ((Rd.start h).alloc 79 zeroN)
  have hx := hbx.alloc (.cells zeroN 79)
  have cB1 : (w.alloc (.cells zeroN 79)).cell? ⟨B, 0, none⟩ = some (.pointer (some ⟨pB, 0, none⟩)) := hx.cell 0
  have C := Lib.hid (H 0 (Nat.zero_le _) _ pB en s r R0.out.pat hr)
  clear h hbx hr hx
  go_enter Tryz.func199, Tryz.ntmps199
  go_wp2_with fail
  refine C.out.mono ?_
  rintro e w1 hE
  cases r with
  | error f =>
    obtain ⟨rfl, ht⟩ := hE
    go_wp2_with fail
    exact ⟨rfl, rfl, Tch.trans R0.out.tch ht⟩
  | ok x =>
    obtain ⟨n, s'⟩ := x
    obtain ⟨⟨v, rfl, hk⟩, hp, ht⟩ := hE
    have R2 := Lib.hid (R0.out.node hp ht hk)
    obtain ⟨ka, kc, rfl⟩ := hk.form
    obtain ⟨r0, r1, r2, r3, r4, r5, rf, rl⟩ := (R2.out.six6 (.head _)).six
    clear hk hp ht
    go_wp2_with fail
    exact R2.out.fin n _ rfl rfl rfl (.head _) (.head _)
set_option maxRecDepth 100000 in
set_option maxHeartbeats 2000000 in
theorem expr_any (m : Nat) (H : ∀ k, k < m → RankC k) : NTC m .expr 172 := by
  intro w pB en s r h hr
  cases m with
  | zero => simp [runP] at hr
  | succ m =>
    rw [runP] at hr
    have hpl := h.lt
    have HR := Lib.hid hr
    have R1 := (((Rd.start h).alloc 86 #[.pointer (some ⟨pB, 0, none⟩)]).alloc' 79 zeroN (w.heap.size + 1) (by simp))
    have hbx := (R1.six6 (.tail _ (.head _))).cell 0
    have R0 := Lib.hid R1
    clear h hr R1
    go_enter Tryz.func172, Tryz.ntmps172
    go_wp2_with fail
    refine (down_any _ pB en s r _ 199 #[.pointer (some ⟨w.heap.size, 0, none⟩)] (enter_of Tryz.func199 (by kernel_rfl) (by kernel_rfl) _) R0.out.pat HR.out ?_ ?_).mono ?_
    · exact mn_run en m _
    · exact fun w1 r1 hp1 ht1 hr1 => exprc_any m (H m (by omega)) w1 pB w.heap.size en _ r1 hp1 ((R0.out.six6 (.tail _ (.head _))).tch ht1 (by omega)) (by omega) hr1
    · rintro e w1 hE
      cases r with
      | error f =>
        obtain ⟨rfl, ht⟩ := hE
        go_wp2_with fail
        exact ⟨rfl, rfl, Tch.trans R0.out.tch ht⟩
      | ok x =>
        obtain ⟨n, s'⟩ := x
        obtain ⟨⟨v, rfl, hk⟩, hp, ht⟩ := hE
        have R2 := Lib.hid (R0.out.node hp ht hk)
        obtain ⟨ka, kc, rfl⟩ := hk.form
        obtain ⟨r0, r1, r2, r3, r4, r5, rf, rl⟩ := (R2.out.six6 (.head _)).six
        clear hk hp ht
        go_wp2_with fail
        exact R2.out.fin n _ rfl rfl rfl (.head _) (.head _)
set_option maxRecDepth 100000 in
set_option maxHeartbeats 2000000 in
theorem unc_any (m : Nat) (H : NTC m .un 219) (H2 : NTC m .post 201) (w : World) (pB B : Nat) (en : Int) (s : PSt) (r : Except Fault (NodeD × PSt)) (h : PAt w pB en s) (hbx : Blk w B 86 #[.pointer (some ⟨pB, 0, none⟩)]) (hB : B ≠ pB)
    (hr : (if aheadP s 0 [45] = true then PM.bind (runP en m .un) (fun e => PM.pure (.mk 15 [] [] 0 [e] (placeP en s))) (nextP s) else if aheadP s 0 [33] = true then PM.bind (runP en m .un) (fun e => PM.pure (.mk 16 [] [] 0 [e] (placeP en s))) (nextP s) else runP en m .post s) = some r) :
    Calls Tryz.prog 235 #[.pointer (some ⟨B, 0, none⟩)] w (PEnd pB en w (NodeQ w) r) := by
  have hBl := hbx.lt
  have HBX : Hid (∀ W : World, Tch pB w W → W.cell? ⟨B, 0, none⟩ = some (.pointer (some ⟨pB, 0, none⟩))) := Lib.hid (fun W ht => (hbx.tch ht hB).cell 0)
  have R0 := Lib.hid ((Rd.start h).alloc 79 zeroN)
  have c0 := HBX.out _ R0.out.tch
  have cw := HBX.out _ (Touch.refl _ w)
  have hpl := h.lt
  clear h hbx
  go_enter Tryz.func235, Tryz.ntmps235
  have HR := Lib.hid hr
  clear hr
  go_wp2_with fail
  refine R0.out.place.mono ?_
  rintro e w1 ⟨rfl, rfl⟩
  have R1 := Lib.hid (R0.out.alloc' 79 #[.int .i64 0, .string ⟨#[]⟩, .string ⟨#[]⟩, .int .i64 0, .slice none 0 0, .int .i64 (placeP en s)] (w.heap.size + 1) (by simp))
  have c1 := HBX.out _ R1.out.tch
  obtain ⟨n0, n1, n2, n3, n4, n5, nf, nl⟩ := (R1.out.six6 (.head _)).six
  have hr := HR.out
  have hds : ∀ y ∈ [(w.heap.size, 79, zeroN)], y.1 ≠ w.heap.size + 1 := by intro y hy; simp at hy; subst hy; show w.heap.size ≠ w.heap.size + 1; omega
  cases ha : aheadP s 0 [45] with
  | true =>
    rw [if_pos ha] at hr
    have M := Lib.hid (R1.out.mayY (b := ⟨#[45]⟩) rfl ha)
    have HR1 := Lib.hid hr
    clear hr HR ha
    go_wp2_with fail
    refine M.out.mono ?_
    rintro e w2 ⟨rfl, R2⟩
    have c2 := HBX.out _ R2.out.tch
    obtain ⟨n0, n1, n2, n3, n4, n5, nf, nl⟩ := (R2.out.six6 (.head _)).six
    have R3 := Lib.hid (R2.out.set hds 0 (.int .i64 15))
    have c3 := HBX.out _ R3.out.tch
    go_wp2_with fail
    refine R3.out.nt HR1.out (fun r1 h1 => H _ pB en _ r1 R3.out.pat h1) trivial (fun fl w' e ht => ?_) (fun a v s2 w4 hr2 hl2 R4 hv => ?_)
    · subst e; go_wp2_with fail; exact ⟨rfl, rfl, ht⟩
    obtain ⟨ka, kc, rfl⟩ := hv
    obtain rfl : r = .ok (.mk 15 [] [] 0 [a] (placeP en s), s2) := by simpa [PM.pure] using hr2.symm
    have R5 := Lib.hid (R4.out.row1 (T := 79) _ rfl)
    obtain ⟨m0, m1, m2, m3, m4, m5, mf, ml⟩ := (R5.out.six6 (.head _)).six
    have R6 := Lib.hid (R5.out.set hds 4 (.slice (some ⟨w4.heap.size, 0, none⟩) 1 1))
    obtain ⟨p0, p1, p2, p3, p4, p5, pf, pl⟩ := (R6.out.six6 (.head _)).six
    obtain ⟨r0, r1, r2, r3, r4, r5, rf, rl⟩ := (R6.out.six6 (.tail _ (.head _))).six
    clear hr2
    go_wp2_with fail
    exact R6.out.fin (.mk 15 [] [] 0 [a] (placeP en s)) _ rfl rfl rfl (.tail _ (.head _)) (.head _)
  | false =>
    rw [if_neg (by rw [ha]; decide)] at hr
    have M0 := Lib.hid (R1.out.mayN (b := ⟨#[45]⟩) rfl ha)
    clear ha
    cases ha : aheadP s 0 [33] with
    | true =>
      rw [if_pos ha] at hr
      have M := Lib.hid (R1.out.mayY (b := ⟨#[33]⟩) rfl ha)
      have HR1 := Lib.hid hr
      clear hr HR ha
      go_wp2_with fail
      refine M0.out.mono ?_
      rintro e w2 ⟨rfl, rfl⟩
      go_wp2_with fail
      refine M.out.mono ?_
      rintro e w2 ⟨rfl, R2⟩
      have c2 := HBX.out _ R2.out.tch
      obtain ⟨n0, n1, n2, n3, n4, n5, nf, nl⟩ := (R2.out.six6 (.head _)).six
      have R3 := Lib.hid (R2.out.set hds 0 (.int .i64 16))
      have c3 := HBX.out _ R3.out.tch
      go_wp2_with fail
      refine R3.out.nt HR1.out (fun r1 h1 => H _ pB en _ r1 R3.out.pat h1) trivial (fun fl w' e ht => ?_) (fun a v s2 w4 hr2 hl2 R4 hv => ?_)
      · subst e; go_wp2_with fail; exact ⟨rfl, rfl, ht⟩
      obtain ⟨ka, kc, rfl⟩ := hv
      obtain rfl : r = .ok (.mk 16 [] [] 0 [a] (placeP en s), s2) := by simpa [PM.pure] using hr2.symm
      have R5 := Lib.hid (R4.out.row1 (T := 79) _ rfl)
      obtain ⟨m0, m1, m2, m3, m4, m5, mf, ml⟩ := (R5.out.six6 (.head _)).six
      have R6 := Lib.hid (R5.out.set hds 4 (.slice (some ⟨w4.heap.size, 0, none⟩) 1 1))
      obtain ⟨p0, p1, p2, p3, p4, p5, pf, pl⟩ := (R6.out.six6 (.head _)).six
      obtain ⟨r0, r1, r2, r3, r4, r5, rf, rl⟩ := (R6.out.six6 (.tail _ (.head _))).six
      clear hr2
      go_wp2_with fail
      exact R6.out.fin (.mk 16 [] [] 0 [a] (placeP en s)) _ rfl rfl rfl (.tail _ (.head _)) (.head _)
    | false =>
      rw [if_neg (by rw [ha]; decide)] at hr
      have M := Lib.hid (R1.out.mayN (b := ⟨#[33]⟩) rfl ha)
      have C := Lib.hid (H2 _ pB en s r R1.out.pat hr)
      clear hr HR ha
      go_wp2_with fail
      refine M0.out.mono ?_
      rintro e w2 ⟨rfl, rfl⟩
      go_wp2_with fail
      refine M.out.mono ?_
      rintro e w2 ⟨rfl, rfl⟩
      go_wp2_with fail
      refine C.out.mono ?_
      rintro e w3 hE
      cases r with
      | error f =>
        obtain ⟨rfl, ht⟩ := hE
        go_wp2_with fail
        exact ⟨rfl, rfl, Tch.trans R1.out.tch ht⟩
      | ok x =>
        obtain ⟨n, s'⟩ := x
        obtain ⟨⟨v, rfl, hk⟩, hp, ht⟩ := hE
        have R2 := Lib.hid (R1.out.node hp ht hk)
        obtain ⟨ka, kc, rfl⟩ := hk.form
        obtain ⟨r0, r1, r2, r3, r4, r5, rf, rl⟩ := (R2.out.six6 (.tail _ (.head _))).six
        clear hk hp ht
        go_wp2_with fail
        exact R2.out.fin n _ rfl rfl rfl (.tail _ (.head _)) (.head _)
set_option maxRecDepth 100000 in
set_option maxHeartbeats 2000000 in
theorem un_any (m : Nat) (H : ∀ k, k < m → NTC k .un 219 ∧ NTC k .post 201) : NTC m .un 219 := by
  intro w pB en s r h hr
  cases m with
  | zero => simp [runP] at hr
  | succ m =>
    rw [runP] at hr
    have hpl := h.lt
    have HR := Lib.hid hr
    have R1 := (((Rd.start h).alloc 86 #[.pointer (some ⟨pB, 0, none⟩)]).alloc' 79 zeroN (w.heap.size + 1) (by simp))
    have hbx := (R1.six6 (.tail _ (.head _))).cell 0
    have R0 := Lib.hid R1
    clear h hr R1
    go_enter Tryz.func219, Tryz.ntmps219
    go_wp2_with fail
    refine (down_any _ pB en s r _ 235 #[.pointer (some ⟨w.heap.size, 0, none⟩)] (enter_of Tryz.func235 (by kernel_rfl) (by kernel_rfl) _) R0.out.pat HR.out ?_ ?_).mono ?_
    · exact mn_ite (mn_atn (F := fun q => PM.bind (runP en m .un) (fun e => PM.pure (NodeD.mk 15 [] [] 0 [e] (placeP en q)))) (fun q => Mn.bind (mn_run en m _) (fun e => Mn.pure _))) (mn_ite (mn_atn (F := fun q => PM.bind (runP en m .un) (fun e => PM.pure (NodeD.mk 16 [] [] 0 [e] (placeP en q)))) (fun q => Mn.bind (mn_run en m _) (fun e => Mn.pure _))) (mn_run en m _))
    · exact fun w1 r1 hp1 ht1 hr1 => unc_any m (H m (by omega)).1 (H m (by omega)).2 w1 pB w.heap.size en _ r1 hp1 ((R0.out.six6 (.tail _ (.head _))).tch ht1 (by omega)) (by omega) hr1
    · rintro e w1 hE
      cases r with
      | error f =>
        obtain ⟨rfl, ht⟩ := hE
        go_wp2_with fail
        exact ⟨rfl, rfl, Tch.trans R0.out.tch ht⟩
      | ok x =>
        obtain ⟨n, s'⟩ := x
        obtain ⟨⟨v, rfl, hk⟩, hp, ht⟩ := hE
        have R2 := Lib.hid (R0.out.node hp ht hk)
        obtain ⟨ka, kc, rfl⟩ := hk.form
        obtain ⟨r0, r1, r2, r3, r4, r5, rf, rl⟩ := (R2.out.six6 (.head _)).six
        clear hk hp ht
        go_wp2_with fail
        exact R2.out.fin n _ rfl rfl rfl (.head _) (.head _)
end Go.Proofs.YtcaigcmbgihhkaaGreatDoor
namespace Go.Proofs.YtcaigcmbgihhkaaGreatDoor
open Go Go.RowKit Go.Shelf
set_option linter.unusedVariables false
set_option linter.unusedSimpArgs false
attribute [local go_sem] Oper.semAt_some
def KidsOw (ok : Nat → Prop) (n0 : Nat) (W : World) (v : Value) (ks : List NodeD) : Prop := ∃ ps : List (NodeD × Value), ps.map Prod.fst = ks ∧ W.ownsRow n0 79 6 v ks.length (ps.flatMap fun p => ncells p.1 p.2) ∧ ∀ p ∈ ps, KidsAt (fun k => ok k ∧ some k ≠ v.ownBlock) W p.1.kids p.2
theorem KidsOw.kids {ok : Nat → Prop} {n0 : Nat} {W : World} {v : Value} {ks : List NodeD} (h : KidsOw ok n0 W v ks) (hok : ∀ k, n0 ≤ k → ok k) : KidsAt ok W ks v := by
  obtain ⟨ps, rfl, ho, hk⟩ := h
  rcases ho.2 with ⟨rfl, hn⟩ | ⟨g, cap, cur, rfl, hg, hb, h1, h2, h3, h4⟩
  · have : ps = [] := by
      cases ps with
      | nil => rfl
      | cons p t => simp at hn
    subst this
    exact KidsAt.nil _ _
  · refine KidsAt.row ps g cap _ (by simp) (fun _ => hok g hg) h1 h2 (fun p hp => (hk p hp).mono (fun k h _ => h.1)) (fun i u hu => ?_)
    have hb' : Blk W g 79 cur := hb
    rw [hb'.cell]
    have hi := (List.getElem?_eq_some_iff.1 hu).1
    rw [← hu, take_get h4 i (by rw [ho.1] at hi; exact hi)]
theorem own_touch {n0 : Nat} {W W' : World} {v : Value} {n sz : Nat} {T : TypeId} {cs : List Value} {S : Nat → Prop} (ho : W.ownsRow n0 T sz v n cs) (ht : Touch S W W') (hS : ∀ k, S k → k < n0) : W'.ownsRow n0 T sz v n cs := by
  refine ⟨ho.1, ?_⟩
  rcases ho.2 with h | ⟨g, cap, cur, e, hg, hb, r⟩
  · exact .inl h
  · exact .inr ⟨g, cap, cur, e, hg, (ht.block g (Array.getElem?_eq_some_iff.1 hb).1 (fun hs => by have := hS g hs; omega)).trans hb, r⟩
theorem KidsOw.appended {ok : Nat → Prop} {n0 : Nat} {w1 w3 : World} {v v' kv : Value} {ks : List NodeD} {n : NodeD} {tmp : Obj} {ps : List (NodeD × Value)} (h1 : ps.map Prod.fst = ks) (hk : ∀ p ∈ ps, KidsAt (fun k => ok k ∧ some k ≠ v.ownBlock) w1 p.1.kids p.2)
    (hn : KidsAt (fun k => ok k ∧ some k ≠ v.ownBlock) w1 n.kids kv) (ho : w3.ownsRow n0 79 6 v' (ks.length + 1) ((ps.flatMap fun p => ncells p.1 p.2) ++ ncells n kv)) (hg : (w1.alloc tmp).grownBy w3 v.ownBlock)
    (hat : v'.ownBlock = v.ownBlock ∨ v'.ownBlock = some (w1.alloc tmp).heap.size) : KidsOw ok n0 w3 v' (ks ++ [n]) := by
  have hb : ∀ k, k < w1.heap.size → some k ≠ v.ownBlock → w3.heap[k]? = w1.heap[k]? := fun k hl hne => (hg.block k (by simp; omega) hne).trans (Below.heap_alloc w1 tmp k hl)
  have hok : ∀ k, (ok k ∧ some k ≠ v.ownBlock) → k < w1.heap.size → (ok k ∧ some k ≠ v'.ownBlock) := fun k h hl => ⟨h.1, by
    rcases hat with e | e
    · rw [e]; exact h.2
    · rw [e]; simp; omega⟩
  refine ⟨ps ++ [(n, kv)], by rw [List.map_append, h1]; rfl, by simpa using ho, fun p hp => ?_⟩
  rcases List.mem_append.1 hp with hp | hp
  · exact (hk p hp).keep hok (fun k hk hl => hb k hl hk.2)
  · simp only [List.mem_singleton] at hp
    subst hp
    exact hn.keep hok (fun k hk hl => hb k hl hk.2)
def ListC (m : Nat) : Prop := ∀ (w : World) (pB : Nat) (en : Int) (s : PSt) (r : Except Fault (NodeD × PSt)) (ok : Nat → Prop) (n : NodeD) (v : Value), PAt w pB en s → KidsAt ok w n.kids v → ¬ ok pB → runP en m (.list [n]) s = some r →
  Calls Tryz.prog 222 #[.pointer (some ⟨pB, 0, none⟩), .agg #[.int .i64 n.op, .string (mkB n.text), .string (mkB n.type), .int .i64 n.n, v, .int .i64 n.at_]] w (PEnd pB en w (fun a e w' => ∃ v', e = .returned v' ∧ KidsAt (fun k => ok k ∨ w.heap.size ≤ k) w' a.kids v') r)
set_option maxRecDepth 100000 in
set_option maxHeartbeats 2000000 in
theorem list_any (m : Nat) (H : ∀ k, k < m → NTC k .expr 172) : ListC m := by
  intro w pB en s r ok n v h hk hok hr
  obtain ⟨va, vc, rfl⟩ := hk.form
  obtain ⟨op, tx, ty, nn, ks, ap⟩ := n
  have hpl := h.lt
  have HR := Lib.hid hr
  have HP := Lib.hid h
  have HK := Lib.hid hk
  have HOK := Lib.hid hok
  clear h hr hk hok
  dsimp only [NodeD.op, NodeD.text, NodeD.type, NodeD.n, NodeD.at_, NodeD.kids] at HK ⊢
  go_enter Tryz.func222, Tryz.ntmps222
  go_wp2_with fail
  obtain ⟨W0, hW0⟩ : ∃ W0, W0 = (w.alloc (.cells #[.int .i64 op, .string (mkB tx), .string (mkB ty), .int .i64 nn, .slice va ks.length vc, .int .i64 ap] 79)) := ⟨_, rfl⟩
  have hs0 : W0.heap.size = w.heap.size + 1 := by rw [hW0]; simp
  have hp0 : PAt W0 pB en s := by rw [hW0]; exact HP.out.alloc _
  have ht0 : Tch pB w W0 := by rw [hW0]; exact (Touch.refl _ _).alloc _
  have hk0 : KidsAt ok W0 ks (.slice va ks.length vc) := by rw [hW0]; exact HK.out.alloc _
  have ho0 := World.ownsRow_lit (base := w.heap.size + 1) (e := 79) (size := 6) W0 #[.int .i64 op, .string (mkB tx), .string (mkB ty), .int .i64 nn, .slice va ks.length vc, .int .i64 ap] 1 (by omega) (by simp [maxLen]) rfl
  have hK0 : KidsOw (fun k => ok k ∨ w.heap.size ≤ k) (w.heap.size + 1) (W0.alloc (.cells #[.int .i64 op, .string (mkB tx), .string (mkB ty), .int .i64 nn, .slice va ks.length vc, .int .i64 ap] 79)) (.slice (some ⟨w.heap.size + 1, 0, none⟩) 1 1) [.mk op tx ty nn ks ap] := by
    refine ⟨[(.mk op tx ty nn ks ap, .slice va ks.length vc)], rfl, ?_, fun p hp => ?_⟩
    · rw [hs0] at ho0
      exact ho0
    · simp only [List.mem_singleton] at hp
      subst hp
      exact (hk0.mono (fun k h1 h2 => ⟨.inl h1, fun e => by simp [Value.ownBlock] at e; omega⟩)).alloc _
  have hl0 : 1 + s.ws.length ≤ 1000001 := by have := HP.out.2.1; omega
  rw [← hW0]
  have hpa := Lib.hid (hp0.alloc (.cells #[.int .i64 op, .string (mkB tx), .string (mkB ty), .int .i64 nn, .slice va ks.length vc, .int .i64 ap] 79))
  have hta := Lib.hid (Touch.alloc ht0 (.cells #[.int .i64 op, .string (mkB tx), .string (mkB ty), .int .i64 nn, .slice va ks.length vc, .int .i64 ap] 79))
  have hK0' := Lib.hid hK0
  clear hW0 hp0 ht0 hk0 ho0 hK0
  go_loopg [5] m (fun k s5 wr => ∃ (ao : Option Addr) (c : Nat) (acc : List NodeD) (s' : PSt), k ≤ m ∧ s5 = .slice ao acc.length c ∧ Hid (KidsOw (fun k => ok k ∨ w.heap.size ≤ k) (w.heap.size + 1) wr (.slice ao acc.length c) acc) ∧ Hid (runP en k (.list acc) s' = some r) ∧ Hid (PAt wr pB en s') ∧ Hid (Tch pB w wr) ∧ acc.length + s'.ws.length ≤ 1000001)
  case atStart => exact ⟨_, _, [.mk op tx ty nn ks ap], s, Nat.le_refl _, rfl, hK0', HR, hpa, hta, hl0⟩
  case round =>
    clear hpa hta hK0' hl0 hs0 HR HK
    obtain ⟨ao, c, acc, s', hk, rfl, HKr, HRn, HPn, HTn, hlen⟩ := hrel
    cases gk with
    | zero => exact absurd HRn.out (by simp [runP])
    | succ k =>
      have hr := HRn.out
      rw [runP] at hr
      dsimp only at hr
      cases ha : aheadP s' 0 [41] with
      | true =>
        rw [if_pos ha] at hr
        have hm := Lib.hid (may_yes wr pB en s' ⟨#[41]⟩ _ rfl HPn.out ha)
        obtain rfl : r = .ok (.mk 0 [] [] 0 acc 0, nextP s') := by simpa using hr.symm
        clear hr ha
        go_wp2_with fail
        refine hm.out.mono ?_
        rintro e w2 ⟨rfl, hp, ht⟩
        go_wp2_with fail
        go_ret
        refine ⟨⟨_, rfl, ?_⟩, hp.out, Tch.trans HTn.out ht.out⟩
        exact (HKr.out.kids (fun k hk => .inr (by omega))).tch ht.out (fun h => h.elim HOK.out (by omega))
      | false =>
        rw [if_neg (by rw [ha]; decide)] at hr
        have hm := Lib.hid (may_no wr pB en s' ⟨#[41]⟩ _ rfl HPn.out ha)
        clear ha
        obtain ⟨ps, hps, ho, hkk⟩ := HKr.out
        have HPS := Lib.hid hps
        have HO := Lib.hid ho
        have HKK := Lib.hid hkk
        have HR := Lib.hid hr
        obtain ⟨i0, hi0, hz0, hz1, hz2⟩ := info_of node_info
        have hln : (acc.length : Int) ≤ 9223372036854775807 := by omega
        clear hr hps ho hkk
        by_cases h1 : 1 < acc.length
        · have hb : decide (1 < (acc.length : Int)) = true := decide_eq_true (by omega)
          have hr := HR.out
          rw [if_pos h1] at hr
          have HR1 := Lib.hid hr
          clear hr h1
          go_wp2_with fail
          refine hm.out.mono ?_
          rintro e w2 ⟨rfl, rfl⟩
          go_wp2_with fail
          refine bind_call HR1.out (fun r1 h1 => must1 wr 9 pB en s' r1 _ rfl _ _ rfl HPn.out h1) (fun fl w' e ht => ?_) ?_
          · subst e; go_wp2_with fail; exact ⟨rfl, rfl, Tch.trans HTn.out ht⟩
          rintro _ s1 e w1 hr1 h1 rfl hp1 ht1
          have HL1 := (mn_must en _).len h1
          have HR2 := Lib.hid hr1
          have HP1 := Lib.hid hp1
          have HT1 := Lib.hid ht1
          clear hr1 h1 hp1 ht1
          go_wp2_with fail
          have hne2 : ¬ w.heap.size + 1 ≤ pB := by omega
          have HO1 := Lib.hid (own_touch HO.out HT1.out (fun k hk => by omega))
          refine bind_call HR2.out (fun r1 h1 => H k (by omega) w1 pB en s1 r1 HP1.out h1) (fun fl w' e ht => ?_) ?_
          · subst e; go_wp2_with fail; exact ⟨rfl, rfl, Tch.trans HTn.out (Tch.trans HT1.out ht)⟩
          rintro a s2 e w2 hr2 h1 ⟨v2, rfl, hk2⟩ hp2 ht2
          obtain ⟨ka, kc, rfl⟩ := hk2.form
          have HO2 := Lib.hid (own_touch HO1.out ht2 (fun k hk => by omega))
          have HL2 := ln_run en k .expr trivial _ _ _ h1
          have HK2 := Lib.hid hk2
          have HP2 := Lib.hid hp2
          have HT2 := Lib.hid (Tch.trans HT1.out ht2)
          have HR3 := Lib.hid hr2
          have hsz2 := HT2.out.size
          have hszr := HTn.out.size
          have hszw := HT1.out.size
          have hsz1 := ht2.size
          clear hr2 h1 hk2 hp2 ht2
          go_wp2_with (at_builtin; go_loud (refine wpList_append_lies _ rfl (.tmp 17) (.tmp 20) 77 rfl (w.heap.size + 1) 79 i0 (.agg #[.int .i64 0, .string ⟨#[]⟩, .string ⟨#[]⟩, .int .i64 0, .slice none 0 0, .int .i64 0]) 6 80 Tryz.underlying77 hi0 hz0 hz1 hz2 rfl (by decide) (.slice ao acc.length c) acc.length _ rfl (HO2.out.alloc _) ⟨w2.heap.size, 0, none⟩ 1 1 (ncells a (.slice ka a.kids.length kc)) rfl rfl (news_at _ _ (ncells a (.slice ka a.kids.length kc))) (by simp [ncells, Value.oneCell']) (by omega) (by unfold maxLen; omega) (by omega) (by simp; omega) _ rfl ?_; intro g cap w3 ho3 hg3 hat3 hlt3; have HO3 := Lib.hid ho3; have HG3 := Lib.hid hg3; have HAT3 := Lib.hid hat3; clear ho3 hg3 hat3))
          go_roundg k
          case measure => omega
          case rel =>
            have hown : ∀ q, some q = (Value.slice ao acc.length c).ownBlock → w.heap.size + 1 ≤ q ∧ q < w2.heap.size := fun q e => HO2.out.lt q e.symm
            have hown1 : ∀ q, some q = (Value.slice ao acc.length c).ownBlock → q < wr.heap.size := fun q e => (HO.out.lt q e.symm).2
            have hk3 := KidsOw.appended (ok := fun k => ok k ∨ w.heap.size ≤ k) (w1 := w2) HPS.out (fun p hp => (HKK.out p hp).tch HT2.out (fun h => h.1.elim HOK.out (by omega))) (HK2.out.mono (fun i h hl => ⟨.inr (by omega), fun e => by have := hown1 i e; have := HT1.out.size; omega⟩)) HO3.out HG3.out (HAT3.out.elim (fun e => .inl e.symm) (fun e => .inr (congrArg some e)))
            have hlen3 : (acc ++ [a]).length = acc.length + 1 := by simp
            refine ⟨some ⟨g, 0, none⟩, cap, acc ++ [a], s2, by omega, by rw [hlen3], Lib.hid (by rw [hlen3]; exact hk3), HR3, Lib.hid ?_, Lib.hid ?_, by rw [hlen3]; omega⟩
            · exact (HP2.out.alloc _).block (fun i hi => HG3.out.block i (by have := HP2.out.lt; simp; omega) (fun e => by have := hown i e; omega))
            · exact ((Tch.trans HTn.out HT2.out).alloc _).grown HG3.out (fun i e => .inr ⟨by have := hown i e.symm; omega, by have := hown i e.symm; simp; omega⟩)
        · have hb : decide (1 < (acc.length : Int)) = false := decide_eq_false (by omega)
          have hr := HR.out
          rw [if_neg h1] at hr
          obtain ⟨s1, hs1⟩ : ∃ s1, s1 = s' := ⟨_, rfl⟩
          obtain ⟨w1, hw1⟩ : ∃ w1, w1 = wr := ⟨_, rfl⟩
          have HR2 : Hid (PM.bind (runP en k .expr) (fun e => runP en k (.list (acc ++ [e]))) s1 = some r) := Lib.hid (by rw [hs1]; exact hr)
          have HL1 : s1.ws.length ≤ s'.ws.length := by rw [hs1]; exact Nat.le_refl _
          have HP1 : Hid (PAt w1 pB en s1) := Lib.hid (by rw [hs1, hw1]; exact HPn.out)
          have HT1 : Hid (Tch pB wr w1) := Lib.hid (by rw [hw1]; exact Touch.refl _ _)
          have HW1 := Lib.hid hw1
          clear hr h1 hs1 hw1
          go_wp2_with fail
          refine hm.out.mono ?_
          rintro e w2 ⟨rfl, hw2⟩
          rw [← hw2, ← HW1.out]
          clear hw2
          go_wp2_with fail
          have hne2 : ¬ w.heap.size + 1 ≤ pB := by omega
          have HO1 := Lib.hid (own_touch HO.out HT1.out (fun k hk => by omega))
          refine bind_call HR2.out (fun r1 h1 => H k (by omega) w1 pB en s1 r1 HP1.out h1) (fun fl w' e ht => ?_) ?_
          · subst e; go_wp2_with fail; exact ⟨rfl, rfl, Tch.trans HTn.out (Tch.trans HT1.out ht)⟩
          rintro a s2 e w2 hr2 h1 ⟨v2, rfl, hk2⟩ hp2 ht2
          obtain ⟨ka, kc, rfl⟩ := hk2.form
          have HO2 := Lib.hid (own_touch HO1.out ht2 (fun k hk => by omega))
          have HL2 := ln_run en k .expr trivial _ _ _ h1
          have HK2 := Lib.hid hk2
          have HP2 := Lib.hid hp2
          have HT2 := Lib.hid (Tch.trans HT1.out ht2)
          have HR3 := Lib.hid hr2
          have hsz2 := HT2.out.size
          have hszr := HTn.out.size
          have hszw := HT1.out.size
          have hsz1 := ht2.size
          clear hr2 h1 hk2 hp2 ht2
          go_wp2_with (at_builtin; go_loud (refine wpList_append_lies _ rfl (.tmp 17) (.tmp 20) 77 rfl (w.heap.size + 1) 79 i0 (.agg #[.int .i64 0, .string ⟨#[]⟩, .string ⟨#[]⟩, .int .i64 0, .slice none 0 0, .int .i64 0]) 6 80 Tryz.underlying77 hi0 hz0 hz1 hz2 rfl (by decide) (.slice ao acc.length c) acc.length _ rfl (HO2.out.alloc _) ⟨w2.heap.size, 0, none⟩ 1 1 (ncells a (.slice ka a.kids.length kc)) rfl rfl (news_at _ _ (ncells a (.slice ka a.kids.length kc))) (by simp [ncells, Value.oneCell']) (by omega) (by unfold maxLen; omega) (by omega) (by simp; omega) _ rfl ?_; intro g cap w3 ho3 hg3 hat3 hlt3; have HO3 := Lib.hid ho3; have HG3 := Lib.hid hg3; have HAT3 := Lib.hid hat3; clear ho3 hg3 hat3))
          go_roundg k
          case measure => omega
          case rel =>
            have hown : ∀ q, some q = (Value.slice ao acc.length c).ownBlock → w.heap.size + 1 ≤ q ∧ q < w2.heap.size := fun q e => HO2.out.lt q e.symm
            have hown1 : ∀ q, some q = (Value.slice ao acc.length c).ownBlock → q < wr.heap.size := fun q e => (HO.out.lt q e.symm).2
            have hk3 := KidsOw.appended (ok := fun k => ok k ∨ w.heap.size ≤ k) (w1 := w2) HPS.out (fun p hp => (HKK.out p hp).tch HT2.out (fun h => h.1.elim HOK.out (by omega))) (HK2.out.mono (fun i h hl => ⟨.inr (by omega), fun e => by have := hown1 i e; have := HT1.out.size; omega⟩)) HO3.out HG3.out (HAT3.out.elim (fun e => .inl e.symm) (fun e => .inr (congrArg some e)))
            have hlen3 : (acc ++ [a]).length = acc.length + 1 := by simp
            refine ⟨some ⟨g, 0, none⟩, cap, acc ++ [a], s2, by omega, by rw [hlen3], Lib.hid (by rw [hlen3]; exact hk3), HR3, Lib.hid ?_, Lib.hid ?_, by rw [hlen3]; omega⟩
            · exact (HP2.out.alloc _).block (fun i hi => HG3.out.block i (by have := HP2.out.lt; simp; omega) (fun e => by have := hown i e; omega))
            · exact ((Tch.trans HTn.out HT2.out).alloc _).grown HG3.out (fun i e => .inr ⟨by have := hown i e.symm; omega, by have := hown i e.symm; simp; omega⟩)
end Go.Proofs.YtcaigcmbgihhkaaGreatDoor
namespace Go.Proofs.YtcaigcmbgihhkaaGreatDoor
open Go Go.RowKit Go.Shelf
set_option linter.unusedVariables false
set_option linter.unusedSimpArgs false
attribute [local go_sem] Oper.semAt_some
theorem Rd.swap {pB : Nat} {en : Int} {w W : World} {x y : Nat × TypeId × Array Value} {Ls : List (Nat × TypeId × Array Value)} {Ks : List (List NodeD × Value)} {s : PSt} (h : Rd pB en w (x :: y :: Ls) Ks W s) : Rd pB en w (y :: x :: Ls) Ks W s := by
  have hm : ∀ z, z ∈ x :: y :: Ls ↔ z ∈ y :: x :: Ls := fun z => by simp only [List.mem_cons]; exact ⟨fun h => by rcases h with h | h | h <;> simp [h], fun h => by rcases h with h | h | h <;> simp [h]⟩
  exact ⟨h.pat, h.tch, fun z hz => h.blk z ((hm z).2 hz), fun z hz => (h.kid z hz).mono (fun k hk _ => ⟨hk.1, fun v hv => hk.2 v ((hm v).2 hv)⟩), h.plt⟩
theorem one_ne {q q' : Nat} {T : TypeId} {cs : Array Value} (h : q ≠ q') : ∀ y ∈ [(q, T, cs)], y.1 ≠ q' := by intro y hy; simp at hy; subst hy; exact h
section
variable {pB : Nat} {en : Int} {w W W' : World} {Ls : List (Nat × TypeId × Array Value)} {Ks : List (List NodeD × Value)} {s s' : PSt}
theorem Rd.placeR (h : Rd pB en w Ls Ks W s) : Calls Tryz.prog 100 #[.pointer (some ⟨pB, 0, none⟩)] W fun e w' => e = .returned (.int .i64 (placeP en s)) ∧ Hid (Rd pB en w Ls Ks w' s) := h.place.mono fun e w' ⟨h1, h2⟩ => ⟨h1, Lib.hid (h2 ▸ h)⟩
theorem Rd.mayNR (h : Rd pB en w Ls Ks W s) {b : ByteArray} {t : Bs} (hb : bl b = t) (ha : aheadP s 0 t = false) : Calls Tryz.prog 70 #[.pointer (some ⟨pB, 0, none⟩), .string b] W fun e w' => e = .returned (.bool false) ∧ Hid (Rd pB en w Ls Ks w' s) := (h.mayN hb ha).mono fun e w' ⟨h1, h2⟩ => ⟨h1, Lib.hid (h2 ▸ h)⟩
theorem Rd.aheadR (h : Rd pB en w Ls Ks W s) (k : Nat) (hk : k ≤ 10) {b : ByteArray} {t : Bs} (hb : bl b = t) {q : Bool} (ha : aheadP s k t = q) : Calls Tryz.prog 104 #[.pointer (some ⟨pB, 0, none⟩), .int .i64 (k : Int), .string b] W fun e w' => e = .returned (.bool q) ∧ Hid (Rd pB en w Ls Ks w' s) := (h.ahead k hk hb ha).mono fun e w' ⟨h1, h2⟩ => ⟨h1, Lib.hid (h2 ▸ h)⟩
theorem Rd.kindR (h : Rd pB en w Ls Ks W s) (k : Int) {q : Bool} (ha : kindP s k = q) : Calls Tryz.prog 102 #[.pointer (some ⟨pB, 0, none⟩), .int .i64 k] W fun e w' => e = .returned (.bool q) ∧ Hid (Rd pB en w Ls Ks w' s) := (h.kind k ha).mono fun e w' ⟨h1, h2⟩ => ⟨h1, Lib.hid (h2 ▸ h)⟩
end
def MadeC (m : Nat) : Prop := ∀ (w : World) (pB : Nat) (en : Int) (s : PSt) (r : Except Fault (NodeD × PSt)) (p : Int), PAt w pB en s → runP en m (.made p) s = some r →
  Calls Tryz.prog 236 #[.pointer (some ⟨pB, 0, none⟩), .agg #[.int .i64 0, .string ⟨#[]⟩, .string ⟨#[]⟩, .int .i64 0, .slice none 0 0, .int .i64 p]] w (PEnd pB en w (NodeQ w) r)
theorem Rd.nilKid {pB : Nat} {en : Int} {w W : World} {Ls : List (Nat × TypeId × Array Value)} {Ks : List (List NodeD × Value)} {s : PSt} (h : Rd pB en w Ls Ks W s) : Rd pB en w Ls (([], .slice none 0 0) :: Ks) W s := h.keep (KidsAt.nil _ _)
set_option maxRecDepth 100000 in
set_option maxHeartbeats 2000000 in
theorem made_any (m : Nat) (H : ∀ k, k < m → NTC k .expr 172) : MadeC m := by
  intro w pB en s r p h hr
  cases m with
  | zero => simp [runP] at hr
  | succ m =>
    rw [runP] at hr
    dsimp only at hr
    have hpl := h.lt
    have R0 := Lib.hid ((((Rd.start h).alloc 79 #[.int .i64 0, .string ⟨#[]⟩, .string ⟨#[]⟩, .int .i64 0, .slice none 0 0, .int .i64 p]).alloc' 79 zeroN (w.heap.size + 1) (by simp)).swap)
    obtain ⟨n0, n1, n2, n3, n4, n5, nf, nl⟩ := (R0.out.six6 (.head _)).six
    have hne : w.heap.size + 1 ≠ w.heap.size := by omega
    clear h
    have HR := Lib.hid hr
    have branch : (kindP s 1 && aheadP s 1 [40]) = true ∨ (kindP s 1 && aheadP s 1 [40]) = false := by cases (kindP s 1 && aheadP s 1 [40]) <;> simp
    clear hr
    have K1 := Lib.hid (R0.out.kindR 1 (q := kindP s 1) rfl)
    go_enter Tryz.func236, Tryz.ntmps236
    go_wp2_with fail
    rcases branch with hb | hb
    · have hr := HR.out
      rw [if_pos hb] at hr
      simp only [Bool.and_eq_true] at hb
      have HB := Lib.hid hb
      rw [hb.1] at K1
      have HR1 := Lib.hid hr
      clear hr hb HR n0 n1 n2 n3 n4 n5 nf nl
      refine K1.out.mono ?_
      rintro e w1 ⟨rfl, R0⟩
      obtain ⟨n0, n1, n2, n3, n4, n5, nf, nl⟩ := (R0.out.six6 (.head _)).six
      have R1 := Lib.hid (R0.out.set (one_ne hne) 0 (.int .i64 11))
      go_wp2_with fail
      refine (R0.out.ahead 1 (by omega) (b := ⟨#[40]⟩) rfl HB.out.2).mono ?_
      rintro e w2 ⟨rfl, rfl⟩
      go_wp2_with fail
      refine R1.out.name HR1.out (fun fl w' e ht => ?_) (fun a s2 w2 hr2 hl2 R2 => ?_)
      · subst e; go_wp2_with fail; exact ⟨rfl, rfl, ht⟩
      have HR2 := Lib.hid hr2
      obtain ⟨m0, m1, m2, m3, m4, m5, mf, ml⟩ := (R2.out.six6 (.head _)).six
      have R3 := Lib.hid (R2.out.set (one_ne hne) 2 (.string (mkB a.1)))
      clear hr2
      go_wp2_with fail
      refine R3.out.musts HR2.out (by simp [World.setCell]) rfl rfl (fun fl w' e ht => ?_) (fun s4 w4 hr4 hl4 R4 => ?_)
      · subst e; go_wp2_with fail; exact ⟨rfl, rfl, ht⟩
      obtain rfl : r = .ok (.mk 11 [] a.1 0 [] p, s4) := by simpa [PM.pure] using hr4.symm
      obtain ⟨p0, p1, p2, p3, p4, p5, pf, pl⟩ := (R4.out.six6 (.head _)).six
      obtain ⟨r0, r1, r2, r3, r4, r5, rf, rl⟩ := (R4.out.six6 (.tail _ (.head _))).six
      clear hr4
      go_wp2_with fail
      exact R4.out.nilKid.fin (.mk 11 [] a.1 0 [] p) _ rfl rfl rfl (.tail _ (.head _)) (.head _)
    · have hr := HR.out
      rw [if_neg (by rw [hb]; decide)] at hr
      have HR1 := Lib.hid hr
      clear hr HR n0 n1 n2 n3 n4 n5 nf nl
      cases hk : kindP s 1 with
      | false =>
        rw [hk] at K1
        clear hk hb
        refine K1.out.mono ?_
        rintro e w1 ⟨rfl, R1⟩
        obtain ⟨n0, n1, n2, n3, n4, n5, nf, nl⟩ := (R1.out.six6 (.head _)).six
        go_wp2_with fail
        refine R1.out.part HR1.out (fun fl w' e ht => ?_) (fun d s2 w2 hr2 hl2 R2 => ?_)
        · subst e; go_wp2_with fail; exact ⟨rfl, rfl, ht⟩
        have HR2 := Lib.hid hr2
        obtain ⟨m0, m1, m2, m3, m4, m5, mf, ml⟩ := (R2.out.six6 (.head _)).six
        have R3 := Lib.hid ((R2.out.set (one_ne hne) 0 (.int .i64 12)).set (one_ne hne) 2 (.string (mkB d)))
        clear hr2
        go_wp2_with fail
        refine R3.out.must HR2.out (by simp [World.setCell]) rfl (fun fl w' e ht => ?_) (fun s4 w4 hr4 hl4 R4 => ?_)
        · subst e; go_wp2_with fail; exact ⟨rfl, rfl, ht⟩
        have HR4 := Lib.hid hr4
        clear hr4
        go_wp2_with fail
        refine R4.out.nt HR4.out (fun r1 h1 => H m (by omega) w4 pB en s4 r1 R4.out.pat h1) trivial (fun fl w' e ht => ?_) (fun a v s5 w5 hr5 hl5 R5 hv => ?_)
        · subst e; go_wp2_with fail; exact ⟨rfl, rfl, ht⟩
        obtain ⟨ka, kc, rfl⟩ := hv
        have HR5 := Lib.hid hr5
        have R6 := Lib.hid (R5.out.row1 (T := 79) _ rfl)
        obtain ⟨q0, q1, q2, q3, q4, q5, qf, ql⟩ := (R6.out.six6 (.head _)).six
        have R7 := Lib.hid (R6.out.set (one_ne hne) 4 (.slice (some ⟨w5.heap.size, 0, none⟩) 1 1))
        clear hr5
        go_wp2_with fail
        refine R7.out.must HR5.out (by simp [World.setCell]) rfl (fun fl w' e ht => ?_) (fun s8 w8 hr8 hl8 R8 => ?_)
        · subst e; go_wp2_with fail; exact ⟨rfl, rfl, ht⟩
        obtain rfl : r = .ok (.mk 12 [] d 0 [a] p, s8) := by simpa [PM.pure] using hr8.symm
        obtain ⟨p0, p1, p2, p3, p4, p5, pf, pl⟩ := (R8.out.six6 (.head _)).six
        obtain ⟨r0, r1, r2, r3, r4, r5, rf, rl⟩ := (R8.out.six6 (.tail _ (.head _))).six
        clear hr8
        go_wp2_with fail
        exact R8.out.fin (.mk 12 [] d 0 [a] p) _ rfl rfl rfl (.tail _ (.head _)) (.head _)
      | true =>
        rw [hk] at K1 hb
        simp only [Bool.true_and] at hb
        have HB := Lib.hid hb
        clear hk hb
        refine K1.out.mono ?_
        rintro e w1 ⟨rfl, R0⟩
        go_wp2_with fail
        refine (R0.out.aheadR 1 (by omega) (b := ⟨#[40]⟩) rfl HB.out).mono ?_
        rintro e w1 ⟨rfl, R1⟩
        obtain ⟨n0, n1, n2, n3, n4, n5, nf, nl⟩ := (R1.out.six6 (.head _)).six
        go_wp2_with fail
        refine R1.out.part HR1.out (fun fl w' e ht => ?_) (fun d s2 w2 hr2 hl2 R2 => ?_)
        · subst e; go_wp2_with fail; exact ⟨rfl, rfl, ht⟩
        have HR2 := Lib.hid hr2
        obtain ⟨m0, m1, m2, m3, m4, m5, mf, ml⟩ := (R2.out.six6 (.head _)).six
        have R3 := Lib.hid ((R2.out.set (one_ne hne) 0 (.int .i64 12)).set (one_ne hne) 2 (.string (mkB d)))
        clear hr2
        go_wp2_with fail
        refine R3.out.must HR2.out (by simp [World.setCell]) rfl (fun fl w' e ht => ?_) (fun s4 w4 hr4 hl4 R4 => ?_)
        · subst e; go_wp2_with fail; exact ⟨rfl, rfl, ht⟩
        have HR4 := Lib.hid hr4
        clear hr4
        go_wp2_with fail
        refine R4.out.nt HR4.out (fun r1 h1 => H m (by omega) w4 pB en s4 r1 R4.out.pat h1) trivial (fun fl w' e ht => ?_) (fun a v s5 w5 hr5 hl5 R5 hv => ?_)
        · subst e; go_wp2_with fail; exact ⟨rfl, rfl, ht⟩
        obtain ⟨ka, kc, rfl⟩ := hv
        have HR5 := Lib.hid hr5
        have R6 := Lib.hid (R5.out.row1 (T := 79) _ rfl)
        obtain ⟨q0, q1, q2, q3, q4, q5, qf, ql⟩ := (R6.out.six6 (.head _)).six
        have R7 := Lib.hid (R6.out.set (one_ne hne) 4 (.slice (some ⟨w5.heap.size, 0, none⟩) 1 1))
        clear hr5
        go_wp2_with fail
        refine R7.out.must HR5.out (by simp [World.setCell]) rfl (fun fl w' e ht => ?_) (fun s8 w8 hr8 hl8 R8 => ?_)
        · subst e; go_wp2_with fail; exact ⟨rfl, rfl, ht⟩
        obtain rfl : r = .ok (.mk 12 [] d 0 [a] p, s8) := by simpa [PM.pure] using hr8.symm
        obtain ⟨p0, p1, p2, p3, p4, p5, pf, pl⟩ := (R8.out.six6 (.head _)).six
        obtain ⟨r0, r1, r2, r3, r4, r5, rf, rl⟩ := (R8.out.six6 (.tail _ (.head _))).six
        clear hr8
        go_wp2_with fail
        exact R8.out.fin (.mk 12 [] d 0 [a] p) _ rfl rfl rfl (.tail _ (.head _)) (.head _)
end Go.Proofs.YtcaigcmbgihhkaaGreatDoor
