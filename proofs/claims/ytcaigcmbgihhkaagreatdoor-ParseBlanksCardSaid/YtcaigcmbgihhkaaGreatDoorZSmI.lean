/-
  Part of a proof: SmI.
-/
import Derived.Test.YtcaigcmbgihhkaaGreatDoorZSmC
namespace Go.Proofs.YtcaigcmbgihhkaaGreatDoor
open Go Go.RowKit Go.Shelf
set_option linter.unusedVariables false
set_option linter.unusedSimpArgs false
attribute [local go_sem] Oper.semAt_some
theorem ParamsAt.ownT {T : TypeId} {n0 : Nat} {W : World} {l : List ParamD} {v : Value} (h : W.ownsRow n0 T 3 v l.length (l.flatMap pcells)) : ParamsAt (fun k => n0 ≤ k) W l v := by
  rcases h.2 with ⟨rfl, hn⟩ | ⟨g, cap, cur, rfl, hg, hb, h1, h2, h3, h4⟩
  · have : l = [] := List.eq_nil_of_length_eq_zero hn
    subst this
    exact ParamsAt.nil _ _
  · refine ⟨_, cap, rfl, h1, h2, fun _ => ⟨g, 0, rfl, hg, fun j x i u hx hu => ?_⟩⟩
    have hb' : Blk W g T cur := hb
    have hj := (List.getElem?_eq_some_iff.1 hx).1
    have hi : i < 3 := by have := (List.getElem?_eq_some_iff.1 hu).1; simpa [pcells] using this
    rw [hb'.cell, Nat.zero_add, take_get h4 (j * 3 + i) (by omega), flatMap_get pcells 3 (fun p => rfl) l j i x hx hi]
    exact hu
def MOwn (T : TypeId) (ok : Nat → Prop) (n0 : Nat) (W : World) (v : Value) (l : List MethodD) : Prop := ∃ ps : List (MethodD × Value × Value), ps.map Prod.fst = l ∧ W.ownsRow n0 T 10 v l.length (ps.flatMap fun p : MethodD × Value × Value => mcells p.1 p.2.1 p.2.2) ∧ ∀ p ∈ ps, MethodIn (fun k => ok k ∧ some k ≠ v.ownBlock) W p.1 p.2.1 p.2.2
theorem MOwn.nil {T : TypeId} (ok : Nat → Prop) (n0 : Nat) (W : World) : MOwn T ok n0 W (.slice none 0 0) [] := ⟨[], rfl, World.ownsRow_nil _ _ _ _, fun p h => by simp at h⟩
theorem MOwn.shut {T : TypeId} {ok : Nat → Prop} {n0 : Nat} {W : World} {v : Value} {l : List MethodD} (h : MOwn T ok n0 W v l) (hok : ∀ g, v.ownBlock = some g → ok g) : MethodsAt ok W l v := by
  obtain ⟨ps, rfl, ho, hk⟩ := h
  have hin : ∀ j m, (ps.map Prod.fst)[j]? = some m → ∃ p : MethodD × Value × Value, ps[j]? = some p ∧ p.1 = m := fun j m hm => by
    rw [List.getElem?_map, Option.map_eq_some_iff] at hm
    exact hm
  rcases ho.2 with ⟨rfl, hn⟩ | ⟨g, cap, cur, rfl, hg, hb, h1, h2, h3, h4⟩
  · have hps : ps = [] := by
      cases ps with
      | nil => rfl
      | cons p t => simp at hn
    subst hps
    exact ⟨none, 0, rfl, Nat.le_refl _, Nat.zero_le _, fun _ => .slice none 0 0, fun _ => .slice none 0 0, fun j m hm => by simp at hm, fun h => absurd rfl h⟩
  · refine ⟨some ⟨g, 0, none⟩, cap, rfl, h1, h2, fun j => match ps[j]? with | some p => p.2.1 | none => .slice none 0 0, fun j => match ps[j]? with | some p => p.2.2 | none => .slice none 0 0, fun j m hm => ?_, fun _ => ⟨g, 0, rfl, hok g rfl, fun j m i u hm hu => ?_⟩⟩
    · obtain ⟨p, hp, rfl⟩ := hin j m hm
      simp only [hp]
      exact (hk p (List.mem_of_getElem? hp)).keep (fun k h _ => h.1) (fun _ _ _ => rfl)
    · obtain ⟨p, hp, rfl⟩ := hin j m hm
      simp only [hp] at hu
      have hb' : Blk W g T cur := hb
      have hj : j < ps.length := (List.getElem?_eq_some_iff.1 hp).1
      have hi : i < 10 := by have := (List.getElem?_eq_some_iff.1 hu).1; simpa [mcells] using this
      rw [hb'.cell, Nat.zero_add, take_get h4 (j * 10 + i) (by rw [List.length_map]; omega), flatMap_get (fun p : MethodD × Value × Value => mcells p.1 p.2.1 p.2.2) 10 (fun p => rfl) ps j i p hp hi]
      exact hu
theorem MOwn.appended {T : TypeId} {ok : Nat → Prop} {n0 : Nat} {w1 w3 : World} {v v' tv kv : Value} {l : List MethodD} {m : MethodD} {tmp : Obj} {ps : List (MethodD × Value × Value)} (h1 : ps.map Prod.fst = l) (hk : ∀ p ∈ ps, MethodIn (fun k => ok k ∧ some k ≠ v.ownBlock) w1 p.1 p.2.1 p.2.2)
    (hn : MethodIn (fun k => ok k ∧ some k ≠ v.ownBlock) w1 m tv kv) (ho : w3.ownsRow n0 T 10 v' (l.length + 1) ((ps.flatMap fun p : MethodD × Value × Value => mcells p.1 p.2.1 p.2.2) ++ mcells m tv kv)) (hg : (w1.alloc tmp).grownBy w3 v.ownBlock)
    (hat : v'.ownBlock = v.ownBlock ∨ v'.ownBlock = some (w1.alloc tmp).heap.size) : MOwn T ok n0 w3 v' (l ++ [m]) := by
  have hb : ∀ k, k < w1.heap.size → some k ≠ v.ownBlock → w3.heap[k]? = w1.heap[k]? := fun k hl hne => (hg.block k (by simp; omega) hne).trans (Below.heap_alloc w1 tmp k hl)
  have hok : ∀ k, (ok k ∧ some k ≠ v.ownBlock) → k < w1.heap.size → (ok k ∧ some k ≠ v'.ownBlock) := fun k h hl => ⟨h.1, by
    rcases hat with e | e
    · rw [e]; exact h.2
    · rw [e]; simp; omega⟩
  refine ⟨ps ++ [(m, tv, kv)], by rw [List.map_append, h1]; rfl, by simpa using ho, fun p hp => ?_⟩
  rcases List.mem_append.1 hp with hp | hp
  · exact (hk p hp).keep hok (fun k hk hl => hb k hl hk.2)
  · simp only [List.mem_singleton] at hp
    subst hp
    exact hn.keep hok (fun k hk hl => hb k hl hk.2)
theorem MOwn.keep {T : TypeId} {ok ok' : Nat → Prop} {n0 : Nat} {W W' : World} {v : Value} {l : List MethodD} (h : MOwn T ok n0 W v l) (hok : ∀ k, ok k → k < W.heap.size → ok' k) (hw : ∀ k, ok k → k < W.heap.size → W'.heap[k]? = W.heap[k]?) (ho : ∀ g, v.ownBlock = some g → W'.heap[g]? = W.heap[g]?) : MOwn T ok' n0 W' v l := by
  obtain ⟨ps, h1, h2, h3⟩ := h
  refine ⟨ps, h1, ⟨h2.1, ?_⟩, fun p hp => (h3 p hp).keep (fun k hk hl => ⟨hok k hk.1 hl, hk.2⟩) (fun k hk hl => hw k hk.1 hl)⟩
  rcases h2.2 with h | ⟨g, cap, cur, e, hg, hb, r⟩
  · exact .inl h
  · exact .inr ⟨g, cap, cur, e, hg, (ho g (by rw [e]; rfl)).trans hb, r⟩
def COwn (T : TypeId) (ok : Nat → Prop) (n0 : Nat) (W : World) (v : Value) (l : List ClassD) : Prop := ∃ ps : List (ClassD × Value × Value), ps.map Prod.fst = l ∧ W.ownsRow n0 T 5 v l.length (ps.flatMap fun p : ClassD × Value × Value => ccells p.1 p.2.1 p.2.2) ∧ ∀ p ∈ ps, ClassIn (fun k => ok k ∧ some k ≠ v.ownBlock) W p.1 p.2.1 p.2.2
theorem COwn.nil {T : TypeId} (ok : Nat → Prop) (n0 : Nat) (W : World) : COwn T ok n0 W (.slice none 0 0) [] := ⟨[], rfl, World.ownsRow_nil _ _ _ _, fun p h => by simp at h⟩
theorem COwn.shut {T : TypeId} {ok : Nat → Prop} {n0 : Nat} {W : World} {v : Value} {l : List ClassD} (h : COwn T ok n0 W v l) (hok : ∀ g, v.ownBlock = some g → ok g) : ClassesAt ok W l v := by
  obtain ⟨ps, rfl, ho, hk⟩ := h
  have hin : ∀ j m, (ps.map Prod.fst)[j]? = some m → ∃ p : ClassD × Value × Value, ps[j]? = some p ∧ p.1 = m := fun j m hm => by
    rw [List.getElem?_map, Option.map_eq_some_iff] at hm
    exact hm
  rcases ho.2 with ⟨rfl, hn⟩ | ⟨g, cap, cur, rfl, hg, hb, h1, h2, h3, h4⟩
  · have hps : ps = [] := by
      cases ps with
      | nil => rfl
      | cons p t => simp at hn
    subst hps
    exact ⟨none, 0, rfl, Nat.le_refl _, Nat.zero_le _, fun _ => .slice none 0 0, fun _ => .slice none 0 0, fun j m hm => by simp at hm, fun h => absurd rfl h⟩
  · refine ⟨some ⟨g, 0, none⟩, cap, rfl, h1, h2, fun j => match ps[j]? with | some p => p.2.1 | none => .slice none 0 0, fun j => match ps[j]? with | some p => p.2.2 | none => .slice none 0 0, fun j m hm => ?_, fun _ => ⟨g, 0, rfl, hok g rfl, fun j m i u hm hu => ?_⟩⟩
    · obtain ⟨p, hp, rfl⟩ := hin j m hm
      simp only [hp]
      exact (hk p (List.mem_of_getElem? hp)).keep (fun k h _ => h.1) (fun _ _ _ => rfl)
    · obtain ⟨p, hp, rfl⟩ := hin j m hm
      simp only [hp] at hu
      have hb' : Blk W g T cur := hb
      have hj : j < ps.length := (List.getElem?_eq_some_iff.1 hp).1
      have hi : i < 5 := by have := (List.getElem?_eq_some_iff.1 hu).1; simpa [ccells] using this
      rw [hb'.cell, Nat.zero_add, take_get h4 (j * 5 + i) (by rw [List.length_map]; omega), flatMap_get (fun p : ClassD × Value × Value => ccells p.1 p.2.1 p.2.2) 5 (fun p => rfl) ps j i p hp hi]
      exact hu
theorem COwn.appended {T : TypeId} {ok : Nat → Prop} {n0 : Nat} {w1 w3 : World} {v v' tv kv : Value} {l : List ClassD} {m : ClassD} {tmp : Obj} {ps : List (ClassD × Value × Value)} (h1 : ps.map Prod.fst = l) (hk : ∀ p ∈ ps, ClassIn (fun k => ok k ∧ some k ≠ v.ownBlock) w1 p.1 p.2.1 p.2.2)
    (hn : ClassIn (fun k => ok k ∧ some k ≠ v.ownBlock) w1 m tv kv) (ho : w3.ownsRow n0 T 5 v' (l.length + 1) ((ps.flatMap fun p : ClassD × Value × Value => ccells p.1 p.2.1 p.2.2) ++ ccells m tv kv)) (hg : (w1.alloc tmp).grownBy w3 v.ownBlock)
    (hat : v'.ownBlock = v.ownBlock ∨ v'.ownBlock = some (w1.alloc tmp).heap.size) : COwn T ok n0 w3 v' (l ++ [m]) := by
  have hb : ∀ k, k < w1.heap.size → some k ≠ v.ownBlock → w3.heap[k]? = w1.heap[k]? := fun k hl hne => (hg.block k (by simp; omega) hne).trans (Below.heap_alloc w1 tmp k hl)
  have hok : ∀ k, (ok k ∧ some k ≠ v.ownBlock) → k < w1.heap.size → (ok k ∧ some k ≠ v'.ownBlock) := fun k h hl => ⟨h.1, by
    rcases hat with e | e
    · rw [e]; exact h.2
    · rw [e]; simp; omega⟩
  refine ⟨ps ++ [(m, tv, kv)], by rw [List.map_append, h1]; rfl, by simpa using ho, fun p hp => ?_⟩
  rcases List.mem_append.1 hp with hp | hp
  · exact (hk p hp).keep hok (fun k hk hl => hb k hl hk.2)
  · simp only [List.mem_singleton] at hp
    subst hp
    exact hn.keep hok (fun k hk hl => hb k hl hk.2)
theorem COwn.keep {T : TypeId} {ok ok' : Nat → Prop} {n0 : Nat} {W W' : World} {v : Value} {l : List ClassD} (h : COwn T ok n0 W v l) (hok : ∀ k, ok k → k < W.heap.size → ok' k) (hw : ∀ k, ok k → k < W.heap.size → W'.heap[k]? = W.heap[k]?) (ho : ∀ g, v.ownBlock = some g → W'.heap[g]? = W.heap[g]?) : COwn T ok' n0 W' v l := by
  obtain ⟨ps, h1, h2, h3⟩ := h
  refine ⟨ps, h1, ⟨h2.1, ?_⟩, fun p hp => (h3 p hp).keep (fun k hk hl => ⟨hok k hk.1 hl, hk.2⟩) (fun k hk hl => hw k hk.1 hl)⟩
  rcases h2.2 with h | ⟨g, cap, cur, e, hg, hb, r⟩
  · exact .inl h
  · exact .inr ⟨g, cap, cur, e, hg, (ho g (by rw [e]; rfl)).trans hb, r⟩
theorem rparam_info : (Tryz.prog.info? 109).map (fun i => (i.zero, i.size, i.bytes)) = some (some (.agg #[.string ⟨#[]⟩, .string ⟨#[]⟩, .int .i64 0]), 3, 40) := by kernel_rfl
theorem rmethod_info : (Tryz.prog.info? 95).map (fun i => (i.zero, i.size, i.bytes)) = some (some (.agg #[.string ⟨#[]⟩, .string ⟨#[]⟩, .slice none 0 0, .int .i64 0, .string ⟨#[]⟩, .string ⟨#[]⟩, .int .i64 0, .slice none 0 0, .int .i64 0, .int .i64 0]), 10, 144) := by kernel_rfl
theorem rclass_info : (Tryz.prog.info? 55).map (fun i => (i.zero, i.size, i.bytes)) = some (some (.agg #[.string ⟨#[]⟩, .string ⟨#[]⟩, .slice none 0 0, .slice none 0 0, .int .i64 0]), 5, 88) := by kernel_rfl
set_option maxRecDepth 100000 in
set_option maxHeartbeats 4000000 in
theorem tparams_any (l : List ParamD) (hlen : l.length ≤ 1000000) (v : Value) (w : World) (h : ParamsIn w l v) :
    Calls Tryz.prog 38 #[v] w fun e w' => ∃ v', e = .returned v' ∧ ParamsAt (fun k => w.heap.size ≤ k) w' l v' ∧ Below w.heap.size w w' := by
  obtain ⟨ao, c, rfl⟩ := h.form
  have H := Lib.hid h
  obtain ⟨n, hn⟩ : ∃ n, n = l.length := ⟨_, rfl⟩
  rw [← hn] at hlen ⊢
  have HN := Lib.hid hn
  clear h hn
  have hnil := Lib.hid (World.ownsRow_nil w w.heap.size 109 3)
  go_enter Tryz.func38, Tryz.ntmps38
  go_wp2_with fail
  go_loopw [3, 4] (fun s3 s4 wr => ∃ (k : Nat), k ≤ n ∧ s4 = .int .i64 (k : Int) ∧ Hid (wr.ownsRow w.heap.size 109 3 s3 k ((l.take k).flatMap pcells)) ∧ Hid (Below w.heap.size w wr)) (fun _ s4 _ => n - (intOf s4).toNat)
  case atStart => exact ⟨0, Nat.zero_le _, rfl, hnil, Lib.hid (Below.refl _ _)⟩
  case round =>
    clear hnil
    obtain ⟨k, hk, rfl, HO, hb⟩ := hrel
    obtain ⟨sa, sc, rfl⟩ := own_form HO.out
    by_cases hkn : k < n
    · obtain ⟨x, hx⟩ : ∃ x, l[k]? = some x := ⟨_, List.getElem?_eq_getElem (by rw [← HN.out]; exact hkn)⟩
      have K := H.out.later hb.out
      obtain ⟨g, o, c1, e, q1, q2, a0, a1, a2⟩ := K.at_ hx
      simp only [Value.slice.injEq] at e
      obtain ⟨rfl, -, rfl⟩ := e
      have lg := cell_lt a0
      have htk : l.take (k + 1) = l.take k ++ [x] := by rw [List.take_add_one, hx]; rfl
      have HTK := Lib.hid htk
      obtain ⟨i0, hi0, hz0, hz1, hz2⟩ := info_of rparam_info
      have hown : ∀ q, some q = (Value.slice sa k sc).ownBlock → w.heap.size ≤ q ∧ q < wr.heap.size := fun q e => HO.out.lt q e.symm
      have hbs : w.heap.size ≤ wr.heap.size := hb.out.size
      clear K hx htk
      go_wp2_with fail
      go_region_law (go_loud (refine step_append_lies _ rfl _ _ 52 rfl w.heap.size 109 i0 (.agg #[.string ⟨#[]⟩, .string ⟨#[]⟩, .int .i64 0]) 3 40 Tryz.underlying52 hi0 hz0 hz1 hz2 rfl (by decide) (.slice sa k sc) k _ (by rfl) (HO.out.drew.alloc _) ⟨wr.heap.size, 0, none⟩ 1 1 (pcells x) (by rfl) (by rfl) (news_at' wr.drew _ (pcells x) _ rfl) (by simp [pcells, Value.oneCell']) (by omega) (by unfold maxLen; omega) (by omega) (by simp [World.drew]; omega) _ (by rfl) ?_; intro g0 cap w3 ho3 hg3 hat3 hlt3; have HO3 := Lib.hid ho3; have HG3 := Lib.hid hg3; clear ho3 hg3 hat3))
      all_goals
        have hk3 : Hid (w3.ownsRow w.heap.size 109 3 (.slice (some ⟨g0, 0, none⟩) (k + 1) cap) (k + 1) ((l.take (k + 1)).flatMap pcells)) := Lib.hid (by rw [HTK.out]; simpa using HO3.out)
        have tb : Touch (fun q => w.heap.size ≤ q) wr w3 := ((Touch.of_below (S := fun q => w.heap.size ≤ q) (below_drew (Below.refl wr.heap.size wr))).alloc _).grown HG3.out (fun i e => .inl (hown i e.symm).1)
        have hb4 := Lib.hid (hb.out.trans (Touch.below tb (n := w.heap.size) hbs (fun q hq => hq)))
        clear tb
        go_wp2_with fail
        go_roundw
        case rel => exact ⟨k + 1, by omega, by go_num, hk3, hb4⟩
        case measure => simp [intOf]; omega
    · obtain rfl : k = n := by omega
      have hks : l.take k = l := by rw [List.take_of_length_le]; have := HN.out; omega
      rw [hks] at HO
      have hkl := HN.out
      clear hks
      go_wp2_with fail
      go_ret
      refine ⟨_, rfl, ParamsAt.ownT (T := 109) (by rw [← HN.out]; exact HO.out), hb.out⟩
end Go.Proofs.YtcaigcmbgihhkaaGreatDoor
