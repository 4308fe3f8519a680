/-
  Part of a proof: SmD.
-/
import Derived.Test.YtcaigcmbgihhkaaDoorZSmA
import Derived.Test.YtcaigcmbgihhkaaDoorZPsA
import Derived.LoopTactic
namespace Go.Proofs.YtcaigcmbgihhkaaDoor
open Go Go.RowKit Go.Shelf
set_option linter.unusedVariables false
set_option linter.unusedSimpArgs false
attribute [local go_sem] Oper.semAt_some
def eqL {α : Type} (f : α → α → Bool) : List α → List α → Bool
  | [], [] => true
  | [], _ :: _ => false
  | _ :: _, [] => false
  | a :: r, b :: s => f a b && eqL f r s
theorem eqL_len {α : Type} {f : α → α → Bool} : ∀ {a b : List α}, a.length ≠ b.length → eqL f a b = false
  | [], [], h => absurd rfl h
  | [], _ :: _, _ => by simp [eqL]
  | _ :: _, [], _ => by simp [eqL]
  | a :: r, b :: s, h => by
    rw [eqL, eqL_len (a := r) (b := s) (by simpa using h), Bool.and_false]
theorem eqL_drop {α : Type} {f : α → α → Bool} {l l' : List α} {k : Nat} {a b : α} (h : l[k]? = some a) (h' : l'[k]? = some b) : eqL f (l.drop k) (l'.drop k) = (f a b && eqL f (l.drop (k + 1)) (l'.drop (k + 1))) := by
  obtain ⟨hk, rfl⟩ := List.getElem?_eq_some_iff.1 h
  obtain ⟨hk', rfl⟩ := List.getElem?_eq_some_iff.1 h'
  rw [List.drop_eq_getElem_cons hk, List.drop_eq_getElem_cons hk', eqL]
theorem eqL_iff {α β : Type} {f : α → α → Bool} {g : α → β} (hf : ∀ a b, f a b = true ↔ g a = g b) : ∀ a b, eqL f a b = true ↔ a.map g = b.map g
  | [], [] => by simp [eqL]
  | [], _ :: _ => by simp [eqL]
  | _ :: _, [] => by simp [eqL]
  | a :: r, b :: s => by
    have h := eqL_iff hf r s
    simp only [eqL, Bool.and_eq_true, List.map_cons, List.cons.injEq, hf, h]
def sameP (p q : ParamD) : Bool := (p.name == q.name) && (p.type == q.type)
def sameM (m n : MethodD) : Bool := (m.name == n.name) && ((m.gives == n.gives) && (eqL sameP m.takes n.takes && sameN m.body n.body))
def sameC (c d : ClassD) : Bool := (c.name == d.name) && ((c.super == d.super) && (eqL sameP c.fields d.fields && eqL sameM c.methods d.methods))
theorem sameP_iff (p q : ParamD) : sameP p q = true ↔ bareP p = bareP q := by simp [sameP, bareP]
theorem sameM_iff (m n : MethodD) : sameM m n = true ↔ bareM m = bareM n := by simp [sameM, bareM, eqL_iff sameP_iff, sameN_iff]
theorem sameC_iff (c d : ClassD) : sameC c d = true ↔ bareC c = bareC d := by simp [sameC, bareC, eqL_iff sameP_iff, eqL_iff sameM_iff]
def sameCs (a b : List ClassD) : Bool := eqL sameC a b
theorem sameCs_iff (a b : List ClassD) : sameCs a b = true ↔ a.map bareC = b.map bareC := eqL_iff sameC_iff a b
abbrev paramV (p : ParamD) : Value := .agg #[.string (mkB p.name), .string (mkB p.type), .int .i64 p.at_]
abbrev methodV (m : MethodD) (tv kv : Value) : Value := .agg #[.string (mkB m.name), .string (mkB m.gives), tv, .int .i64 m.body.op, .string (mkB m.body.text), .string (mkB m.body.type), .int .i64 m.body.n, kv, .int .i64 m.body.at_, .int .i64 m.at_]
abbrev classV (c : ClassD) (fv mv : Value) : Value := .agg #[.string (mkB c.name), .string (mkB c.super), fv, mv, .int .i64 c.at_]
def ParamC (a b : ParamD) : Prop := ∀ W, Calls Tryd.prog 47 #[paramV a, paramV b] W fun e W' => e = .returned (.bool (sameP a b)) ∧ Below W.heap.size W W'
def MethodC (a b : MethodD) : Prop := ∀ W ta tb ka kb, ParamsIn W a.takes ta → ParamsIn W b.takes tb → KidsIn W a.body.kids ka → KidsIn W b.body.kids kb → Calls Tryd.prog 31 #[methodV a ta ka, methodV b tb kb] W fun e W' => e = .returned (.bool (sameM a b)) ∧ Below W.heap.size W W'
def ClassC (a b : ClassD) : Prop := ∀ W fa fb ma mb, ParamsIn W a.fields fa → ParamsIn W b.fields fb → MethodsIn W a.methods ma → MethodsIn W b.methods mb → Calls Tryd.prog 28 #[classV a fa ma, classV b fb mb] W fun e W' => e = .returned (.bool (sameC a b)) ∧ Below W.heap.size W W'
set_option maxRecDepth 100000 in
set_option maxHeartbeats 4000000 in
theorem param_c (a b : ParamD) : ParamC a b := fun W => by
  obtain ⟨t, y, p⟩ := a
  obtain ⟨t', y', p'⟩ := b
  obtain ⟨R, hR⟩ : ∃ R, R = sameP ⟨t, y, p⟩ ⟨t', y', p'⟩ := ⟨_, rfl⟩
  rw [← hR]
  simp only [sameP] at hR
  have hbb := fun (u v : Array Value) => (Below.refl W.heap.size W).alloc (Nat.le_refl _) (.cells u 51) |>.alloc (by simp) (.cells v 51)
  have HB := Lib.hid hbb
  clear hbb
  dsimp only [paramV]
  by_cases h2 : t = t'
  · subst h2
    by_cases h3 : y = y'
    · subst h3
      simp only [BEq.rfl, Bool.true_and] at hR
      subst hR
      go_enter Tryd.func47, Tryd.ntmps47
      go_wp2_with fail
      go_ret
      exact ⟨rfl, HB.out _ _⟩
    · have e : (y == y') = false := beq_eq_false_iff_ne.2 h3
      have t2 : ((mkB y).toList == (mkB y').toList) = false := by rw [mkB_list, mkB_list]; exact e
      have t3 : ¬ (mkB y).toList = (mkB y').toList := by rw [mkB_list, mkB_list]; exact h3
      simp only [e, Bool.false_and, Bool.and_false] at hR
      subst hR
      go_enter Tryd.func47, Tryd.ntmps47
      go_wp2_with fail
      go_ret
      exact ⟨rfl, HB.out _ _⟩
  · have e : (t == t') = false := beq_eq_false_iff_ne.2 h2
    have t2 : ((mkB t).toList == (mkB t').toList) = false := by rw [mkB_list, mkB_list]; exact e
    have t3 : ¬ (mkB t).toList = (mkB t').toList := by rw [mkB_list, mkB_list]; exact h2
    simp only [e, Bool.false_and, Bool.and_false] at hR
    subst hR
    go_enter Tryd.func47, Tryd.ntmps47
    go_wp2_with fail
    go_ret
    exact ⟨rfl, HB.out _ _⟩
set_option maxRecDepth 100000 in
set_option maxHeartbeats 4000000 in
theorem eqf_param (l l' : List ParamD) (v v' : Value) (w : World) (h : ParamsIn w l v) (h' : ParamsIn w l' v') (HF : ∀ a ∈ l, ∀ b ∈ l', ParamC a b) :
    Calls Tryd.prog 46 #[v, v', .func (.func 47) #[] #[]] w fun e w' => e = .returned (.bool (eqL sameP l l')) ∧ Below w.heap.size w w' := by
  have hfn : ∀ fr w, Sem.run Tryd.prog (callFunc 47 fr) w = .ok (.enter 47 fr) w := fun fr w => enter_of Tryd.func47 (by kernel_rfl) (by kernel_rfl) fr w
  obtain ⟨ao, c, rfl⟩ := h.form
  obtain ⟨ao', c', rfl⟩ := h'.form
  have hl : l.length ≤ maxLen := by
    obtain ⟨_, _, e, h1, h2, _⟩ := h
    omega
  have hl' : l'.length ≤ maxLen := by
    obtain ⟨_, _, e, h1, h2, _⟩ := h'
    omega
  have H := Lib.hid h
  have H' := Lib.hid h'
  have HC := Lib.hid HF
  obtain ⟨n, hn⟩ : ∃ n, n = l.length := ⟨_, rfl⟩
  obtain ⟨n', hn'⟩ : ∃ n, n = l'.length := ⟨_, rfl⟩
  rw [← hn] at hl ⊢
  rw [← hn'] at hl' ⊢
  have HN := Lib.hid hn
  have HN' := Lib.hid hn'
  have hl3 : (n : Int) ≤ 9223372036854775807 := by unfold maxLen at hl; omega
  clear h h' HF
  by_cases hne : n = n'
  · subst hne
    have hd : ((n : Int) != (n : Int)) = false := by simp
    obtain ⟨R, hR⟩ : ∃ R, R = eqL sameP l l' := ⟨_, rfl⟩
    rw [← hR]
    have HR := Lib.hid hR
    clear hR hn hn'
    go_enter Tryd.func46, Tryd.ntmps46
    go_wp2_with fail
    go_loopw [17] (fun s17 wr => ∃ (k : Nat), k ≤ n ∧ s17 = .int .i64 (k : Int) ∧ Hid (R = eqL sameP (l.drop k) (l'.drop k)) ∧ Below w.heap.size w wr) (fun s17 _ => n - (intOf s17).toNat)
    case atStart => exact ⟨0, Nat.zero_le _, rfl, HR, Below.refl _ _⟩
    case round =>
      obtain ⟨k, hk, rfl, hm, hb⟩ := hrel
      by_cases hkn : k < n
      · obtain ⟨a, ha⟩ : ∃ a, l[k]? = some a := ⟨_, List.getElem?_eq_getElem (by rw [← HN.out]; exact hkn)⟩
        obtain ⟨b, hb2⟩ : ∃ a, l'[k]? = some a := ⟨_, List.getElem?_eq_getElem (by rw [← HN'.out]; exact hkn)⟩
        have K := H.out.later hb
        have K' := H'.out.later hb
        obtain ⟨g, o, c1, e, q1, q2, a0, a1, a2⟩ := K.at_ ha
        obtain ⟨g', o', c2, e', q1', q2', b0, b1, b2⟩ := K'.at_ hb2
        simp only [Value.slice.injEq] at e e'
        obtain ⟨rfl, -, rfl⟩ := e
        obtain ⟨rfl, -, rfl⟩ := e'
        have lg := cell_lt a0
        have lg' := cell_lt b0
        have hm' := hm.out
        rw [eqL_drop ha hb2] at hm'
        have hcc := HC.out a (List.mem_of_getElem? ha) b (List.mem_of_getElem? hb2)
        have CC := Lib.hid hcc
        have HB := Lib.hid hb
        have HM := Lib.hid hm'
        clear hm hm' hcc  hb K K' ha hb2
        go_wp2_with fail
        refine (CC.out _ ).mono ?_
        rintro e w1 ⟨rfl, hb1⟩
        have HB1 := Lib.hid ((HB.out.alloc HB.out.size (.cells #[.string (mkB a.name), .string (mkB a.type), .int .i64 a.at_] 51)).alloc (by have := HB.out.size; simp; omega) (.cells #[.string (mkB b.name), .string (mkB b.type), .int .i64 b.at_] 51) |>.trans (hb1.mono (by have := HB.out.size; simp; omega)))
        clear hb1
        cases hq : sameP a b with
        | true =>
          have hm' := HM.out
          rw [hq, Bool.true_and] at hm'
          have HM2 := Lib.hid hm'
          clear hm' hq HM
          go_wp2_with fail
          go_roundw
          case rel => exact ⟨k + 1, by omega, by go_num, HM2, HB1.out⟩
          case measure => simp [intOf]; omega
        | false =>
          have hm' := HM.out
          rw [hq, Bool.false_and] at hm'
          subst hm'
          clear hq HM
          go_wp2_with fail
          go_ret
          exact ⟨rfl, HB1.out⟩
      · obtain rfl : k = n := by omega
        have hm' := hm.out
        rw [List.drop_eq_nil_of_le (by rw [← HN.out]; exact Nat.le_refl _), List.drop_eq_nil_of_le (by rw [← HN'.out]; exact Nat.le_refl _)] at hm'
        have HM := Lib.hid hm'
        have HB := Lib.hid hb
        clear hm hm' hb
        go_wp2_with fail
        go_ret
        exact ⟨by rw [HM.out]; rfl, HB.out⟩
  · have hd : ((n : Int) != (n' : Int)) = true := by simp only [bne_iff_ne, ne_eq, Int.ofNat_inj]; exact hne
    have hs : eqL sameP l l' = false := eqL_len (by rw [← hn, ← hn']; exact hne)
    rw [hs]
    clear hn hn' hs
    go_enter Tryd.func46, Tryd.ntmps46
    go_wp2_with fail
    go_ret
    exact ⟨rfl, Below.refl _ _⟩
set_option maxRecDepth 100000 in
theorem params25_any (l l' : List ParamD) (v v' : Value) (w : World) (h : ParamsIn w l v) (h' : ParamsIn w l' v') : Calls Tryd.prog 29 #[v, v'] w fun e w' => e = .returned (.bool (eqL sameP l l')) ∧ Below w.heap.size w w' := by
  have HE := Lib.hid (eqf_param l l' v v' w h h' (fun a _ b _ => param_c a b))
  obtain ⟨ao, c, rfl⟩ := h.form
  obtain ⟨ao', c', rfl⟩ := h'.form
  clear h h'
  go_enter Tryd.func29, Tryd.ntmps29
  go_wp2_with fail
  refine HE.out.mono ?_
  rintro e w1 ⟨rfl, hb⟩
  go_wp2_with fail
  go_ret
  exact ⟨rfl, hb⟩
set_option maxRecDepth 100000 in
set_option maxHeartbeats 8000000 in
theorem method_c (a b : MethodD) : MethodC a b := fun W ta tb ka kb h1 h2 h3 h4 => by
  obtain ⟨xa, xc, rfl⟩ := h1.form
  obtain ⟨ya, yc, rfl⟩ := h2.form
  obtain ⟨za, zc, rfl⟩ := h3.form
  obtain ⟨ua, uc, rfl⟩ := h4.form
  have c1 := fun (W' : World) (h : Below W.heap.size W W') => params25_any _ _ _ _ W' (h1.later h) (h2.later h)
  have c2 := fun (W' : World) (h : Below W.heap.size W W') => same_any a.body b.body W' _ _ (h3.later h) (h4.later h)
  have C1 := Lib.hid c1
  have C2 := Lib.hid c2
  obtain ⟨t, y, ps, bd, p⟩ := a
  obtain ⟨t', y', ps', bd', p'⟩ := b
  obtain ⟨o, q, r, m, ks, s⟩ := bd
  obtain ⟨o', q', r', m', ks', s'⟩ := bd'
  obtain ⟨R, hR⟩ : ∃ R, R = sameM ⟨t, y, ps, .mk o q r m ks s, p⟩ ⟨t', y', ps', .mk o' q' r' m' ks' s', p'⟩ := ⟨_, rfl⟩
  rw [← hR]
  simp only [sameM] at hR
  clear h1 h2 h3 h4 c1 c2
  have hbb := fun (u v : Array Value) => (Below.refl W.heap.size W).alloc (Nat.le_refl _) (.cells u 53) |>.alloc (by simp) (.cells v 53)
  have HB := Lib.hid hbb
  clear hbb
  dsimp only [methodV, nodeV, NodeD.op, NodeD.text, NodeD.type, NodeD.n, NodeD.at_, NodeD.kids] at C1 C2 ⊢
  by_cases h2 : t = t'
  · subst h2
    by_cases h3 : y = y'
    · subst h3
      simp only [BEq.rfl, Bool.true_and] at hR
      have HR := Lib.hid hR
      clear hR
      go_enter Tryd.func31, Tryd.ntmps31
      go_wp2_with fail
      refine (C1.out _ (HB.out _ _)).mono ?_
      rintro e w1 ⟨rfl, hb1⟩
      cases hq : eqL sameP ps ps' with
      | true =>
        have hr := HR.out
        rw [hq, Bool.true_and] at hr
        have HR2 := Lib.hid hr
        have n0 := ((Blk.new W 53 #[.string (mkB t), .string (mkB y), .slice xa ps.length xc, .int .i64 o, .string (mkB q), .string (mkB r), .int .i64 m, .slice za ks.length zc, .int .i64 s, .int .i64 p]).alloc (.cells #[.string (mkB t), .string (mkB y), .slice ya ps'.length yc, .int .i64 o', .string (mkB q'), .string (mkB r'), .int .i64 m', .slice ua ks'.length uc, .int .i64 s', .int .i64 p'] 53)).below hb1 (by simp; omega)
        have n1 := (Blk.new (W.alloc (.cells #[.string (mkB t), .string (mkB y), .slice xa ps.length xc, .int .i64 o, .string (mkB q), .string (mkB r), .int .i64 m, .slice za ks.length zc, .int .i64 s, .int .i64 p] 53)) 53 #[.string (mkB t), .string (mkB y), .slice ya ps'.length yc, .int .i64 o', .string (mkB q'), .string (mkB r'), .int .i64 m', .slice ua ks'.length uc, .int .i64 s', .int .i64 p']).below hb1 (by simp)
        simp only [World.size_alloc] at n1
        have a3 := n0.cell 3
        have a4 := n0.cell 4
        have a5 := n0.cell 5
        have a6 := n0.cell 6
        have a7 := n0.cell 7
        have a8 := n0.cell 8
        have b3 := n1.cell 3
        have b4 := n1.cell 4
        have b5 := n1.cell 5
        have b6 := n1.cell 6
        have b7 := n1.cell 7
        have b8 := n1.cell 8
        have HB1 := Lib.hid ((HB.out _ _).trans (hb1.mono (HB.out _ _).size))
        have hl1 := n0.lt
        have hl2 := n1.lt
        clear hb1 hq hr n0 n1 HR
        go_wp2_with fail
        refine (C2.out _ HB1.out).mono ?_
        rintro e w2 ⟨rfl, hb2⟩
        have HB2 := Lib.hid (HB1.out.trans (hb2.mono HB1.out.size))
        clear hb2
        go_wp2_with fail
        go_ret
        exact ⟨by rw [HR2.out]; rfl, HB2.out⟩
      | false =>
        have hr := HR.out
        rw [hq, Bool.false_and] at hr
        subst hr
        have HB1 := Lib.hid ((HB.out _ _).trans (hb1.mono (HB.out _ _).size))
        clear hb1 hq HR
        go_wp2_with fail
        go_ret
        exact ⟨rfl, HB1.out⟩
    · have e : (y == y') = false := beq_eq_false_iff_ne.2 h3
      have t2 : ((mkB y).toList == (mkB y').toList) = false := by rw [mkB_list, mkB_list]; exact e
      have t3 : ¬ (mkB y).toList = (mkB y').toList := by rw [mkB_list, mkB_list]; exact h3
      simp only [e, Bool.false_and, Bool.and_false] at hR
      subst hR
      go_enter Tryd.func31, Tryd.ntmps31
      go_wp2_with fail
      go_ret
      exact ⟨rfl, HB.out _ _⟩
  · have e : (t == t') = false := beq_eq_false_iff_ne.2 h2
    have t2 : ((mkB t).toList == (mkB t').toList) = false := by rw [mkB_list, mkB_list]; exact e
    have t3 : ¬ (mkB t).toList = (mkB t').toList := by rw [mkB_list, mkB_list]; exact h2
    simp only [e, Bool.false_and, Bool.and_false] at hR
    subst hR
    go_enter Tryd.func31, Tryd.ntmps31
    go_wp2_with fail
    go_ret
    exact ⟨rfl, HB.out _ _⟩
set_option maxRecDepth 100000 in
set_option maxHeartbeats 4000000 in
theorem eqf_method (l l' : List MethodD) (v v' : Value) (w : World) (h : MethodsIn w l v) (h' : MethodsIn w l' v') (HF : ∀ a ∈ l, ∀ b ∈ l', MethodC a b) :
    Calls Tryd.prog 30 #[v, v', .func (.func 31) #[] #[]] w fun e w' => e = .returned (.bool (eqL sameM l l')) ∧ Below w.heap.size w w' := by
  have hfn : ∀ fr w, Sem.run Tryd.prog (callFunc 31 fr) w = .ok (.enter 31 fr) w := fun fr w => enter_of Tryd.func31 (by kernel_rfl) (by kernel_rfl) fr w
  obtain ⟨ao, c, rfl⟩ := h.form
  obtain ⟨ao', c', rfl⟩ := h'.form
  have hl : l.length ≤ maxLen := by
    obtain ⟨_, _, e, h1, h2, _⟩ := h
    omega
  have hl' : l'.length ≤ maxLen := by
    obtain ⟨_, _, e, h1, h2, _⟩ := h'
    omega
  have H := Lib.hid h
  have H' := Lib.hid h'
  have HC := Lib.hid HF
  obtain ⟨n, hn⟩ : ∃ n, n = l.length := ⟨_, rfl⟩
  obtain ⟨n', hn'⟩ : ∃ n, n = l'.length := ⟨_, rfl⟩
  rw [← hn] at hl ⊢
  rw [← hn'] at hl' ⊢
  have HN := Lib.hid hn
  have HN' := Lib.hid hn'
  have hl3 : (n : Int) ≤ 9223372036854775807 := by unfold maxLen at hl; omega
  clear h h' HF
  by_cases hne : n = n'
  · subst hne
    have hd : ((n : Int) != (n : Int)) = false := by simp
    obtain ⟨R, hR⟩ : ∃ R, R = eqL sameM l l' := ⟨_, rfl⟩
    rw [← hR]
    have HR := Lib.hid hR
    clear hR hn hn'
    go_enter Tryd.func30, Tryd.ntmps30
    go_wp2_with fail
    go_loopw [17] (fun s17 wr => ∃ (k : Nat), k ≤ n ∧ s17 = .int .i64 (k : Int) ∧ Hid (R = eqL sameM (l.drop k) (l'.drop k)) ∧ Below w.heap.size w wr) (fun s17 _ => n - (intOf s17).toNat)
    case atStart => exact ⟨0, Nat.zero_le _, rfl, HR, Below.refl _ _⟩
    case round =>
      obtain ⟨k, hk, rfl, hm, hb⟩ := hrel
      by_cases hkn : k < n
      · obtain ⟨a, ha⟩ : ∃ a, l[k]? = some a := ⟨_, List.getElem?_eq_getElem (by rw [← HN.out]; exact hkn)⟩
        obtain ⟨b, hb2⟩ : ∃ a, l'[k]? = some a := ⟨_, List.getElem?_eq_getElem (by rw [← HN'.out]; exact hkn)⟩
        have K := H.out.later hb
        have K' := H'.out.later hb
        obtain ⟨g, o, c1, tv, kv, e, q1, q2, ⟨ha1, ha2⟩, a0, a1, a2, a3, a4, a5, a6, a7, a8, a9⟩ := K.at_ ha
        obtain ⟨g', o', c2, tv', kv', e', q1', q2', ⟨hb1, hb2x⟩, b0, b1, b2, b3, b4, b5, b6, b7, b8, b9⟩ := K'.at_ hb2
        simp only [Value.slice.injEq] at e e'
        obtain ⟨rfl, -, rfl⟩ := e
        obtain ⟨rfl, -, rfl⟩ := e'
        have lg := cell_lt a0
        have lg' := cell_lt b0
        obtain ⟨xa, xc, rfl⟩ := ha1.form
        obtain ⟨ya, yc, rfl⟩ := hb1.form
        obtain ⟨xa2, xc2, rfl⟩ := ha2.form
        obtain ⟨ya2, yc2, rfl⟩ := hb2x.form
        have hm' := hm.out
        rw [eqL_drop ha hb2] at hm'
        have hcc := HC.out a (List.mem_of_getElem? ha) b (List.mem_of_getElem? hb2)
        have CC := Lib.hid hcc
        have KA1 := Lib.hid (show ParamsIn wr _ _ from ha1)
        have KB1 := Lib.hid (show ParamsIn wr _ _ from hb1)
        have KA2 := Lib.hid (show KidsIn wr _ _ from ha2)
        have KB2 := Lib.hid (show KidsIn wr _ _ from hb2x)
        have HB := Lib.hid hb
        have HM := Lib.hid hm'
        clear hm hm' hcc ha1 hb1 ha2 hb2x hb K K' ha hb2
        go_wp2_with fail
        refine (CC.out _ _ _ _ _ (KA1.out.later ((Below.refl _ _).alloc (Nat.le_refl _) _ |>.alloc (by simp) _)) (KB1.out.later ((Below.refl _ _).alloc (Nat.le_refl _) _ |>.alloc (by simp) _)) (KA2.out.later ((Below.refl _ _).alloc (Nat.le_refl _) _ |>.alloc (by simp) _)) (KB2.out.later ((Below.refl _ _).alloc (Nat.le_refl _) _ |>.alloc (by simp) _))).mono ?_
        rintro e w1 ⟨rfl, hb1⟩
        have HB1 := Lib.hid ((HB.out.alloc HB.out.size (.cells #[.string (mkB a.name), .string (mkB a.gives), .slice xa a.takes.length xc, .int .i64 a.body.op, .string (mkB a.body.text), .string (mkB a.body.type), .int .i64 a.body.n, .slice xa2 a.body.kids.length xc2, .int .i64 a.body.at_, .int .i64 a.at_] 53)).alloc (by have := HB.out.size; simp; omega) (.cells #[.string (mkB b.name), .string (mkB b.gives), .slice ya b.takes.length yc, .int .i64 b.body.op, .string (mkB b.body.text), .string (mkB b.body.type), .int .i64 b.body.n, .slice ya2 b.body.kids.length yc2, .int .i64 b.body.at_, .int .i64 b.at_] 53) |>.trans (hb1.mono (by have := HB.out.size; simp; omega)))
        clear hb1
        cases hq : sameM a b with
        | true =>
          have hm' := HM.out
          rw [hq, Bool.true_and] at hm'
          have HM2 := Lib.hid hm'
          clear hm' hq HM
          go_wp2_with fail
          go_roundw
          case rel => exact ⟨k + 1, by omega, by go_num, HM2, HB1.out⟩
          case measure => simp [intOf]; omega
        | false =>
          have hm' := HM.out
          rw [hq, Bool.false_and] at hm'
          subst hm'
          clear hq HM
          go_wp2_with fail
          go_ret
          exact ⟨rfl, HB1.out⟩
      · obtain rfl : k = n := by omega
        have hm' := hm.out
        rw [List.drop_eq_nil_of_le (by rw [← HN.out]; exact Nat.le_refl _), List.drop_eq_nil_of_le (by rw [← HN'.out]; exact Nat.le_refl _)] at hm'
        have HM := Lib.hid hm'
        have HB := Lib.hid hb
        clear hm hm' hb
        go_wp2_with fail
        go_ret
        exact ⟨by rw [HM.out]; rfl, HB.out⟩
  · have hd : ((n : Int) != (n' : Int)) = true := by simp only [bne_iff_ne, ne_eq, Int.ofNat_inj]; exact hne
    have hs : eqL sameM l l' = false := eqL_len (by rw [← hn, ← hn']; exact hne)
    rw [hs]
    clear hn hn' hs
    go_enter Tryd.func30, Tryd.ntmps30
    go_wp2_with fail
    go_ret
    exact ⟨rfl, Below.refl _ _⟩
set_option maxRecDepth 100000 in
set_option maxHeartbeats 8000000 in
theorem class_c (a b : ClassD) : ClassC a b := fun W fa fb ma mb h1 h2 h3 h4 => by
  obtain ⟨xa, xc, rfl⟩ := h1.form
  obtain ⟨ya, yc, rfl⟩ := h2.form
  obtain ⟨za, zc, rfl⟩ := h3.form
  obtain ⟨ua, uc, rfl⟩ := h4.form
  have c1 := fun (W' : World) (h : Below W.heap.size W W') => params25_any _ _ _ _ W' (h1.later h) (h2.later h)
  have c2 := fun (W' : World) (h : Below W.heap.size W W') => eqf_method _ _ _ _ W' (h3.later h) (h4.later h) (fun a _ b _ => method_c a b)
  have C1 := Lib.hid c1
  have C2 := Lib.hid c2
  obtain ⟨t, y, ps, ks, p⟩ := a
  obtain ⟨t', y', ps', ks', p'⟩ := b
  obtain ⟨R, hR⟩ : ∃ R, R = sameC ⟨t, y, ps, ks, p⟩ ⟨t', y', ps', ks', p'⟩ := ⟨_, rfl⟩
  rw [← hR]
  simp only [sameC] at hR
  clear h1 h2 h3 h4 c1 c2
  have hbb := fun (u v : Array Value) => (Below.refl W.heap.size W).alloc (Nat.le_refl _) (.cells u 49) |>.alloc (by simp) (.cells v 49)
  have HB := Lib.hid hbb
  clear hbb
  dsimp only [classV, NodeD.op, NodeD.text, NodeD.type, NodeD.n, NodeD.at_, NodeD.kids] at C1 C2 ⊢
  by_cases h2 : t = t'
  · subst h2
    by_cases h3 : y = y'
    · subst h3
      simp only [BEq.rfl, Bool.true_and] at hR
      have HR := Lib.hid hR
      clear hR
      go_enter Tryd.func28, Tryd.ntmps28
      go_wp2_with fail
      refine (C1.out _ (HB.out _ _)).mono ?_
      rintro e w1 ⟨rfl, hb1⟩
      cases hq : eqL sameP ps ps' with
      | true =>
        have hr := HR.out
        rw [hq, Bool.true_and] at hr
        have HR2 := Lib.hid hr
        have n0 := ((Blk.new W 49 #[.string (mkB t), .string (mkB y), .slice xa ps.length xc, .slice za ks.length zc, .int .i64 p]).alloc (.cells #[.string (mkB t), .string (mkB y), .slice ya ps'.length yc, .slice ua ks'.length uc, .int .i64 p'] 49)).below hb1 (by simp; omega)
        have n1 := (Blk.new (W.alloc (.cells #[.string (mkB t), .string (mkB y), .slice xa ps.length xc, .slice za ks.length zc, .int .i64 p] 49)) 49 #[.string (mkB t), .string (mkB y), .slice ya ps'.length yc, .slice ua ks'.length uc, .int .i64 p']).below hb1 (by simp)
        simp only [World.size_alloc] at n1
        have a3 := n0.cell 3
        have b3 := n1.cell 3
        have HB1 := Lib.hid ((HB.out _ _).trans (hb1.mono (HB.out _ _).size))
        have hl1 := n0.lt
        have hl2 := n1.lt
        clear hb1 hq hr n0 n1 HR
        go_wp2_with fail
        refine (C2.out _ HB1.out).mono ?_
        rintro e w2 ⟨rfl, hb2⟩
        have HB2 := Lib.hid (HB1.out.trans (hb2.mono HB1.out.size))
        clear hb2
        go_wp2_with fail
        go_ret
        exact ⟨by rw [HR2.out]; rfl, HB2.out⟩
      | false =>
        have hr := HR.out
        rw [hq, Bool.false_and] at hr
        subst hr
        have HB1 := Lib.hid ((HB.out _ _).trans (hb1.mono (HB.out _ _).size))
        clear hb1 hq HR
        go_wp2_with fail
        go_ret
        exact ⟨rfl, HB1.out⟩
    · have e : (y == y') = false := beq_eq_false_iff_ne.2 h3
      have t2 : ((mkB y).toList == (mkB y').toList) = false := by rw [mkB_list, mkB_list]; exact e
      have t3 : ¬ (mkB y).toList = (mkB y').toList := by rw [mkB_list, mkB_list]; exact h3
      simp only [e, Bool.false_and, Bool.and_false] at hR
      subst hR
      go_enter Tryd.func28, Tryd.ntmps28
      go_wp2_with fail
      go_ret
      exact ⟨rfl, HB.out _ _⟩
  · have e : (t == t') = false := beq_eq_false_iff_ne.2 h2
    have t2 : ((mkB t).toList == (mkB t').toList) = false := by rw [mkB_list, mkB_list]; exact e
    have t3 : ¬ (mkB t).toList = (mkB t').toList := by rw [mkB_list, mkB_list]; exact h2
    simp only [e, Bool.false_and, Bool.and_false] at hR
    subst hR
    go_enter Tryd.func28, Tryd.ntmps28
    go_wp2_with fail
    go_ret
    exact ⟨rfl, HB.out _ _⟩
set_option maxRecDepth 100000 in
set_option maxHeartbeats 4000000 in
theorem eqf_class (l l' : List ClassD) (v v' : Value) (w : World) (h : ClassesIn w l v) (h' : ClassesIn w l' v') (HF : ∀ a ∈ l, ∀ b ∈ l', ClassC a b) :
    Calls Tryd.prog 27 #[v, v', .func (.func 28) #[] #[]] w fun e w' => e = .returned (.bool (eqL sameC l l')) ∧ Below w.heap.size w w' := by
  have hfn : ∀ fr w, Sem.run Tryd.prog (callFunc 28 fr) w = .ok (.enter 28 fr) w := fun fr w => enter_of Tryd.func28 (by kernel_rfl) (by kernel_rfl) fr w
  obtain ⟨ao, c, rfl⟩ := h.form
  obtain ⟨ao', c', rfl⟩ := h'.form
  have hl : l.length ≤ maxLen := by
    obtain ⟨_, _, e, h1, h2, _⟩ := h
    omega
  have hl' : l'.length ≤ maxLen := by
    obtain ⟨_, _, e, h1, h2, _⟩ := h'
    omega
  have H := Lib.hid h
  have H' := Lib.hid h'
  have HC := Lib.hid HF
  obtain ⟨n, hn⟩ : ∃ n, n = l.length := ⟨_, rfl⟩
  obtain ⟨n', hn'⟩ : ∃ n, n = l'.length := ⟨_, rfl⟩
  rw [← hn] at hl ⊢
  rw [← hn'] at hl' ⊢
  have HN := Lib.hid hn
  have HN' := Lib.hid hn'
  have hl3 : (n : Int) ≤ 9223372036854775807 := by unfold maxLen at hl; omega
  clear h h' HF
  by_cases hne : n = n'
  · subst hne
    have hd : ((n : Int) != (n : Int)) = false := by simp
    obtain ⟨R, hR⟩ : ∃ R, R = eqL sameC l l' := ⟨_, rfl⟩
    rw [← hR]
    have HR := Lib.hid hR
    clear hR hn hn'
    go_enter Tryd.func27, Tryd.ntmps27
    go_wp2_with fail
    go_loopw [17] (fun s17 wr => ∃ (k : Nat), k ≤ n ∧ s17 = .int .i64 (k : Int) ∧ Hid (R = eqL sameC (l.drop k) (l'.drop k)) ∧ Below w.heap.size w wr) (fun s17 _ => n - (intOf s17).toNat)
    case atStart => exact ⟨0, Nat.zero_le _, rfl, HR, Below.refl _ _⟩
    case round =>
      obtain ⟨k, hk, rfl, hm, hb⟩ := hrel
      by_cases hkn : k < n
      · obtain ⟨a, ha⟩ : ∃ a, l[k]? = some a := ⟨_, List.getElem?_eq_getElem (by rw [← HN.out]; exact hkn)⟩
        obtain ⟨b, hb2⟩ : ∃ a, l'[k]? = some a := ⟨_, List.getElem?_eq_getElem (by rw [← HN'.out]; exact hkn)⟩
        have K := H.out.later hb
        have K' := H'.out.later hb
        obtain ⟨g, o, c1, tv, kv, e, q1, q2, ⟨ha1, ha2⟩, a0, a1, a2, a3, a4⟩ := K.at_ ha
        obtain ⟨g', o', c2, tv', kv', e', q1', q2', ⟨hb1, hb2x⟩, b0, b1, b2, b3, b4⟩ := K'.at_ hb2
        simp only [Value.slice.injEq] at e e'
        obtain ⟨rfl, -, rfl⟩ := e
        obtain ⟨rfl, -, rfl⟩ := e'
        have lg := cell_lt a0
        have lg' := cell_lt b0
        obtain ⟨xa, xc, rfl⟩ := ha1.form
        obtain ⟨ya, yc, rfl⟩ := hb1.form
        obtain ⟨xa2, xc2, rfl⟩ := ha2.form
        obtain ⟨ya2, yc2, rfl⟩ := hb2x.form
        have hm' := hm.out
        rw [eqL_drop ha hb2] at hm'
        have hcc := HC.out a (List.mem_of_getElem? ha) b (List.mem_of_getElem? hb2)
        have CC := Lib.hid hcc
        have KA1 := Lib.hid (show ParamsIn wr _ _ from ha1)
        have KB1 := Lib.hid (show ParamsIn wr _ _ from hb1)
        have KA2 := Lib.hid (show MethodsIn wr _ _ from ha2)
        have KB2 := Lib.hid (show MethodsIn wr _ _ from hb2x)
        have HB := Lib.hid hb
        have HM := Lib.hid hm'
        clear hm hm' hcc ha1 hb1 ha2 hb2x hb K K' ha hb2
        go_wp2_with fail
        refine (CC.out _ _ _ _ _ (KA1.out.later ((Below.refl _ _).alloc (Nat.le_refl _) _ |>.alloc (by simp) _)) (KB1.out.later ((Below.refl _ _).alloc (Nat.le_refl _) _ |>.alloc (by simp) _)) (KA2.out.later ((Below.refl _ _).alloc (Nat.le_refl _) _ |>.alloc (by simp) _)) (KB2.out.later ((Below.refl _ _).alloc (Nat.le_refl _) _ |>.alloc (by simp) _))).mono ?_
        rintro e w1 ⟨rfl, hb1⟩
        have HB1 := Lib.hid ((HB.out.alloc HB.out.size (.cells #[.string (mkB a.name), .string (mkB a.super), .slice xa a.fields.length xc, .slice xa2 a.methods.length xc2, .int .i64 a.at_] 49)).alloc (by have := HB.out.size; simp; omega) (.cells #[.string (mkB b.name), .string (mkB b.super), .slice ya b.fields.length yc, .slice ya2 b.methods.length yc2, .int .i64 b.at_] 49) |>.trans (hb1.mono (by have := HB.out.size; simp; omega)))
        clear hb1
        cases hq : sameC a b with
        | true =>
          have hm' := HM.out
          rw [hq, Bool.true_and] at hm'
          have HM2 := Lib.hid hm'
          clear hm' hq HM
          go_wp2_with fail
          go_roundw
          case rel => exact ⟨k + 1, by omega, by go_num, HM2, HB1.out⟩
          case measure => simp [intOf]; omega
        | false =>
          have hm' := HM.out
          rw [hq, Bool.false_and] at hm'
          subst hm'
          clear hq HM
          go_wp2_with fail
          go_ret
          exact ⟨rfl, HB1.out⟩
      · obtain rfl : k = n := by omega
        have hm' := hm.out
        rw [List.drop_eq_nil_of_le (by rw [← HN.out]; exact Nat.le_refl _), List.drop_eq_nil_of_le (by rw [← HN'.out]; exact Nat.le_refl _)] at hm'
        have HM := Lib.hid hm'
        have HB := Lib.hid hb
        clear hm hm' hb
        go_wp2_with fail
        go_ret
        exact ⟨by rw [HM.out]; rfl, HB.out⟩
  · have hd : ((n : Int) != (n' : Int)) = true := by simp only [bne_iff_ne, ne_eq, Int.ofNat_inj]; exact hne
    have hs : eqL sameC l l' = false := eqL_len (by rw [← hn, ← hn']; exact hne)
    rw [hs]
    clear hn hn' hs
    go_enter Tryd.func27, Tryd.ntmps27
    go_wp2_with fail
    go_ret
    exact ⟨rfl, Below.refl _ _⟩
set_option maxRecDepth 100000 in
theorem sameAll_any (l l' : List ClassD) (v v' : Value) (w : World) (h : ClassesIn w l v) (h' : ClassesIn w l' v') : Calls Tryd.prog 17 #[v, v'] w fun e w' => e = .returned (.bool (sameCs l l')) ∧ Below w.heap.size w w' := by
  have HE := Lib.hid (eqf_class l l' v v' w h h' (fun a _ b _ => class_c a b))
  obtain ⟨ao, c, rfl⟩ := h.form
  obtain ⟨ao', c', rfl⟩ := h'.form
  clear h h'
  go_enter Tryd.func17, Tryd.ntmps17
  go_wp2_with fail
  refine HE.out.mono ?_
  rintro e w1 ⟨rfl, hb⟩
  go_wp2_with fail
  go_ret
  exact ⟨rfl, hb⟩
end Go.Proofs.YtcaigcmbgihhkaaDoor
