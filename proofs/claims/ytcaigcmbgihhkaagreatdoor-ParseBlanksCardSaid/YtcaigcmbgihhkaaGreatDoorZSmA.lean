/-
  Part of a proof: SmA, SmB, PkA.
-/
import Derived.Test.YtcaigcmbgihhkaaGreatDoorZPsA
import Derived.Test.YtcaigcmbgihhkaaGreatDoorZParI
import Derived.LoopTactic
import Derived.Test.YtcaigcmbgihhkaaGreatDoorZParAE
namespace Go.Proofs.YtcaigcmbgihhkaaGreatDoor
open Go Go.RowKit Go.Shelf
set_option linter.unusedVariables false
set_option linter.unusedSimpArgs false
attribute [local go_sem] Oper.semAt_some
mutual
def sameN : NodeD → NodeD → Bool
  | .mk o t y n k _, .mk o' t' y' n' k' _ => (o == o') && ((t == t') && ((y == y') && ((n == n') && sameL k k')))
def sameL : List NodeD → List NodeD → Bool
  | [], [] => true
  | [], _ :: _ => false
  | _ :: _, [] => false
  | a :: r, b :: s => sameN a b && sameL r s
end
mutual
theorem sameN_iff : ∀ a b, sameN a b = true ↔ bare a = bare b
  | .mk o t y n k _, .mk o' t' y' n' k' _ => by
    have h := sameL_iff k k'
    simp only [sameN, bare, Bool.and_eq_true, beq_iff_eq, NodeD.mk.injEq, h, and_true]
theorem sameL_iff : ∀ a b, sameL a b = true ↔ bares a = bares b
  | [], [] => by simp [sameL, bares]
  | [], _ :: _ => by simp [sameL, bares]
  | _ :: _, [] => by simp [sameL, bares]
  | a :: r, b :: s => by
    have h1 := sameN_iff a b
    have h2 := sameL_iff r s
    simp only [sameL, bares, Bool.and_eq_true, List.cons.injEq, h1, h2]
end
theorem sameL_len : ∀ {a b : List NodeD}, a.length ≠ b.length → sameL a b = false
  | [], [], h => absurd rfl h
  | [], _ :: _, _ => by simp [sameL]
  | _ :: _, [], _ => by simp [sameL]
  | a :: r, b :: s, h => by
    rw [sameL, sameL_len (a := r) (b := s) (by simpa using h), Bool.and_false]
theorem sameL_drop {l l' : List NodeD} {k : Nat} {a b : NodeD} (h : l[k]? = some a) (h' : l'[k]? = some b) : sameL (l.drop k) (l'.drop k) = (sameN a b && sameL (l.drop (k + 1)) (l'.drop (k + 1))) := by
  obtain ⟨hk, rfl⟩ := List.getElem?_eq_some_iff.1 h
  obtain ⟨hk', rfl⟩ := List.getElem?_eq_some_iff.1 h'
  rw [List.drop_eq_getElem_cons hk, List.drop_eq_getElem_cons hk', sameL]
abbrev AllB : Nat → Prop := fun _ => True
abbrev KidsIn (W : World) (l : List NodeD) (v : Value) : Prop := KidsAt AllB W l v
theorem KidsAt.all {ok : Nat → Prop} {W : World} {l : List NodeD} {v : Value} (h : KidsAt ok W l v) : KidsIn W l v := h.mono (fun _ _ _ => trivial)
theorem KidsAt.later {W W' : World} {l : List NodeD} {v : Value} (h : KidsIn W l v) (hb : Below W.heap.size W W') : KidsIn W' l v := h.keep (fun _ _ _ => trivial) (fun k _ hl => hb.block k hl)
theorem KidsAt.at_ {ok : Nat → Prop} {W : World} {l : List NodeD} {v : Value} {k : Nat} {a : NodeD} (h : KidsAt ok W l v) (hk : l[k]? = some a) : ∃ g o c kv, v = .slice (some ⟨g, o, none⟩) l.length c ∧ l.length ≤ c ∧ c ≤ maxLen ∧ KidsAt ok W a.kids kv ∧ ∀ i u, (ncells a kv)[i]? = some u → W.cell? ⟨g, o + k * 6 + i, none⟩ = some u := by
  cases h with
  | mk ks ao c h1 h2 g o ha kv hkk hc =>
    have hne : l ≠ [] := by rintro e; rw [e] at hk; simp at hk
    exact ⟨g, o, c, kv k, by rw [(ha hne).1], h1, h2, hkk k a hk, fun i u hu => hc k a i u hk hu⟩
theorem KidsAt.six {ok : Nat → Prop} {W : World} {l : List NodeD} {v : Value} {k : Nat} {a : NodeD} (h : KidsAt ok W l v) (hk : l[k]? = some a) : ∃ g o c kv, v = .slice (some ⟨g, o, none⟩) l.length c ∧ l.length ≤ c ∧ c ≤ maxLen ∧ KidsAt ok W a.kids kv ∧
    W.cell? ⟨g, o + k * 6, none⟩ = some (.int .i64 a.op) ∧ W.cell? ⟨g, o + k * 6 + 1, none⟩ = some (.string (mkB a.text)) ∧ W.cell? ⟨g, o + k * 6 + 2, none⟩ = some (.string (mkB a.type)) ∧ W.cell? ⟨g, o + k * 6 + 3, none⟩ = some (.int .i64 a.n) ∧ W.cell? ⟨g, o + k * 6 + 4, none⟩ = some kv ∧ W.cell? ⟨g, o + k * 6 + 5, none⟩ = some (.int .i64 a.at_) := by
  obtain ⟨g, o, c, kv, e, h1, h2, h3, h4⟩ := h.at_ hk
  exact ⟨g, o, c, kv, e, h1, h2, h3, h4 0 _ rfl, h4 1 _ rfl, h4 2 _ rfl, h4 3 _ rfl, h4 4 _ rfl, h4 5 _ rfl⟩
theorem KidsAt.len {ok : Nat → Prop} {W : World} {l : List NodeD} {v : Value} (h : KidsAt ok W l v) : l.length ≤ maxLen := by
  cases h; omega
abbrev nodeV (a : NodeD) (kv : Value) : Value := .agg #[.int .i64 a.op, .string (mkB a.text), .string (mkB a.type), .int .i64 a.n, kv, .int .i64 a.at_]
def SameC (a b : NodeD) : Prop := ∀ W va vb, KidsIn W a.kids va → KidsIn W b.kids vb → Calls Tryz.prog 33 #[nodeV a va, nodeV b vb] W fun e W' => e = .returned (.bool (sameN a b)) ∧ Below W.heap.size W W'
set_option maxRecDepth 100000 in
set_option maxHeartbeats 2000000 in
theorem eqf_node (l l' : List NodeD) (v v' : Value) (w : World) (h : KidsIn w l v) (h' : KidsIn w l' v') (HF : ∀ a ∈ l, ∀ b ∈ l', SameC a b) :
    Calls Tryz.prog 67 #[v, v', .func (.func 33) #[] #[]] w fun e w' => e = .returned (.bool (sameL l l')) ∧ Below w.heap.size w w' := by
  have hfn : ∀ fr w, Sem.run Tryz.prog (callFunc 33 fr) w = .ok (.enter 33 fr) w := fun fr w => enter_of Tryz.func33 (by kernel_rfl) (by kernel_rfl) fr w
  obtain ⟨ao, c, rfl⟩ := h.form
  obtain ⟨ao', c', rfl⟩ := h'.form
  have hl := h.len
  have hl' := h'.len
  have H := Lib.hid h
  have H' := Lib.hid h'
  have HC := Lib.hid HF
  obtain ⟨n, hn⟩ : ∃ n, n = l.length := ⟨_, rfl⟩
  obtain ⟨n', hn'⟩ : ∃ n, n = l'.length := ⟨_, rfl⟩
  rw [← hn] at hl ⊢
  rw [← hn'] at hl' ⊢
  have HN := Lib.hid hn
  have HN' := Lib.hid hn'
  have hl3 : (n : Int) ≤ 9223372036854775807 := by unfold maxLen at hl; omega
  clear h h' HF
  by_cases hne : n = n'
  · subst hne
    have hd : ((n : Int) != (n : Int)) = false := by simp
    obtain ⟨R, hR⟩ : ∃ R, R = sameL l l' := ⟨_, rfl⟩
    rw [← hR]
    have HR := Lib.hid hR
    clear hR hn hn'
    go_enter Tryz.func67, Tryz.ntmps67
    go_wp2_with fail
    go_loopw [17] (fun s17 wr => ∃ (k : Nat), k ≤ n ∧ s17 = .int .i64 (k : Int) ∧ Hid (R = sameL (l.drop k) (l'.drop k)) ∧ Below w.heap.size w wr) (fun s17 _ => n - (intOf s17).toNat)
    case atStart => exact ⟨0, Nat.zero_le _, rfl, HR, Below.refl _ _⟩
    case round =>
      obtain ⟨k, hk, rfl, hm, hb⟩ := hrel
      by_cases hkn : k < n
      · obtain ⟨a, ha⟩ : ∃ a, l[k]? = some a := ⟨_, List.getElem?_eq_getElem (by rw [← HN.out]; exact hkn)⟩
        obtain ⟨b, hb2⟩ : ∃ a, l'[k]? = some a := ⟨_, List.getElem?_eq_getElem (by rw [← HN'.out]; exact hkn)⟩
        have K := H.out.later hb
        have K' := H'.out.later hb
        obtain ⟨g, o, c1, va, e, q1, q2, hka, a0, a1, a2, a3, a4, a5⟩ := K.six ha
        obtain ⟨g', o', c2, vb, e', q1', q2', hkb, b0, b1, b2, b3, b4, b5⟩ := K'.six hb2
        simp only [Value.slice.injEq] at e e'
        obtain ⟨rfl, -, rfl⟩ := e
        obtain ⟨rfl, -, rfl⟩ := e'
        have lg := cell_lt a0
        have lg' := cell_lt b0
        obtain ⟨xa, xc, rfl⟩ := hka.form
        obtain ⟨ya, yc, rfl⟩ := hkb.form
        have hm' := hm.out
        rw [sameL_drop ha hb2] at hm'
        have hcc := HC.out a (List.mem_of_getElem? ha) b (List.mem_of_getElem? hb2)
        have CC := Lib.hid hcc
        have KA := Lib.hid hka
        have KB := Lib.hid hkb
        have HB := Lib.hid hb
        have HM := Lib.hid hm'
        clear hm hm' hcc hka hkb hb K K' ha hb2
        go_wp2_with fail
        refine (CC.out _ _ _ ((KA.out.alloc _).alloc _) ((KB.out.alloc _).alloc _)).mono ?_
        rintro e w1 ⟨rfl, hb1⟩
        have HB1 := Lib.hid ((HB.out.alloc HB.out.size (.cells #[.int .i64 a.op, .string (mkB a.text), .string (mkB a.type), .int .i64 a.n, .slice xa a.kids.length xc, .int .i64 a.at_] 79)).alloc (by have := HB.out.size; simp; omega) (.cells #[.int .i64 b.op, .string (mkB b.text), .string (mkB b.type), .int .i64 b.n, .slice ya b.kids.length yc, .int .i64 b.at_] 79) |>.trans (hb1.mono (by have := HB.out.size; simp; omega)))
        clear hb1
        cases hq : sameN a b with
        | true =>
          have hm' := HM.out
          rw [hq, Bool.true_and] at hm'
          have HM2 := Lib.hid hm'
          clear hm' hq HM
          go_wp2_with fail
          go_roundw
          case rel => exact ⟨k + 1, by omega, by go_num, HM2, HB1.out⟩
          case measure => simp [intOf]; omega
        | false =>
          have hm' := HM.out
          rw [hq, Bool.false_and] at hm'
          subst hm'
          clear hq HM
          go_wp2_with fail
          go_ret
          exact ⟨rfl, HB1.out⟩
      · obtain rfl : k = n := by omega
        have hm' := hm.out
        rw [List.drop_eq_nil_of_le (by rw [← HN.out]; exact Nat.le_refl _), List.drop_eq_nil_of_le (by rw [← HN'.out]; exact Nat.le_refl _)] at hm'
        have HM := Lib.hid hm'
        have HB := Lib.hid hb
        clear hm hm' hb
        go_wp2_with fail
        go_ret
        exact ⟨by rw [HM.out]; rfl, HB.out⟩
  · have hd : ((n : Int) != (n' : Int)) = true := by simp only [bne_iff_ne, ne_eq, Int.ofNat_inj]; exact hne
    have hs : sameL l l' = false := sameL_len (by rw [← hn, ← hn']; exact hne)
    rw [hs]
    clear hn hn' hs
    go_enter Tryz.func67, Tryz.ntmps67
    go_wp2_with fail
    go_ret
    exact ⟨rfl, Below.refl _ _⟩
theorem mkB_list (a : Bs) : (mkB a).toList = a := by
  rw [Lib.toList_data]
  exact bl_mkB a
set_option maxRecDepth 100000 in
set_option maxHeartbeats 2000000 in
theorem same_step (a b : NodeD) (HF : ∀ x ∈ a.kids, ∀ y ∈ b.kids, SameC x y) : SameC a b := fun W va vb ha hb => by
  obtain ⟨xa, xc, rfl⟩ := ha.form
  obtain ⟨ya, yc, rfl⟩ := hb.form
  have hc := fun (W' : World) (h : Below W.heap.size W W') => eqf_node a.kids b.kids _ _ W' (ha.later h) (hb.later h) HF
  have HC := Lib.hid hc
  obtain ⟨o, t, y, n, k, p⟩ := a
  obtain ⟨o', t', y', n', k', p'⟩ := b
  obtain ⟨R, hR⟩ : ∃ R, R = sameN (.mk o t y n k p) (.mk o' t' y' n' k' p') := ⟨_, rfl⟩
  rw [← hR]
  simp only [sameN] at hR
  clear ha hb HF hc
  dsimp only [nodeV, NodeD.op, NodeD.text, NodeD.type, NodeD.n, NodeD.at_, NodeD.kids] at HC ⊢
  have hbb := fun (u v : Array Value) => (Below.refl W.heap.size W).alloc (Nat.le_refl _) (.cells u 79) |>.alloc (by simp) (.cells v 79)
  have HB := Lib.hid hbb
  clear hbb
  by_cases h1 : o = o'
  · subst h1
    by_cases h2 : t = t'
    · subst h2
      by_cases h3 : y = y'
      · subst h3
        by_cases h4 : n = n'
        · subst h4
          simp only [BEq.rfl, Bool.true_and] at hR
          have HR := Lib.hid hR
          clear hR
          go_enter Tryz.func33, Tryz.ntmps33
          go_wp2_with fail
          refine (HC.out _ (HB.out _ _)).mono ?_
          rintro e w1 ⟨rfl, hb1⟩
          have HB1 := Lib.hid ((HB.out _ _).trans (hb1.mono (HB.out _ _).size))
          clear hb1
          go_wp2_with fail
          go_ret
          exact ⟨by rw [HR.out]; rfl, HB1.out⟩
        · have e : (n == n') = false := beq_eq_false_iff_ne.2 h4
          simp only [e, Bool.false_and, Bool.and_false] at hR
          subst hR
          go_enter Tryz.func33, Tryz.ntmps33
          go_wp2_with fail
          go_ret
          exact ⟨rfl, HB.out _ _⟩
      · have e : (y == y') = false := beq_eq_false_iff_ne.2 h3
        have t2 : ((mkB y).toList == (mkB y').toList) = false := by rw [mkB_list, mkB_list]; exact e
        have t3 : ¬ (mkB y).toList = (mkB y').toList := by rw [mkB_list, mkB_list]; exact h3
        simp only [e, Bool.false_and, Bool.and_false] at hR
        subst hR
        go_enter Tryz.func33, Tryz.ntmps33
        go_wp2_with fail
        go_ret
        exact ⟨rfl, HB.out _ _⟩
    · have e : (t == t') = false := beq_eq_false_iff_ne.2 h2
      have t2 : ((mkB t).toList == (mkB t').toList) = false := by rw [mkB_list, mkB_list]; exact e
      have t3 : ¬ (mkB t).toList = (mkB t').toList := by rw [mkB_list, mkB_list]; exact h2
      simp only [e, Bool.false_and, Bool.and_false] at hR
      subst hR
      go_enter Tryz.func33, Tryz.ntmps33
      go_wp2_with fail
      go_ret
      exact ⟨rfl, HB.out _ _⟩
  · have e : (o == o') = false := beq_eq_false_iff_ne.2 h1
    simp only [e, Bool.false_and, Bool.and_false] at hR
    subst hR
    go_enter Tryz.func33, Tryz.ntmps33
    go_wp2_with fail
    go_ret
    exact ⟨rfl, HB.out _ _⟩
theorem same_any : ∀ a b : NodeD, SameC a b := by
  have h : ∀ (n : Nat) (a b : NodeD), SizeOf.sizeOf a < n → SameC a b := by
    intro n
    induction n with
    | zero => intro a b h; exact absurd h (by omega)
    | succ n ih =>
      intro a b h
      refine same_step a b fun x hx y hy => ih x y ?_
      have := List.sizeOf_lt_of_mem hx
      obtain ⟨o, t, y, n, k, p⟩ := a
      simp only [NodeD.kids] at this
      simp only [NodeD.mk.sizeOf_spec] at h
      omega
  exact fun a b => h _ a b (Nat.lt_succ_self _)
end Go.Proofs.YtcaigcmbgihhkaaGreatDoor
namespace Go.Proofs.YtcaigcmbgihhkaaGreatDoor
open Go Go.RowKit Go.Shelf
set_option linter.unusedVariables false
set_option linter.unusedSimpArgs false
theorem below_drew {n : Nat} {w W : World} (h : Below n w W) : Below n w W.drew := pw_below_drewN h 1
theorem ParamsAt.at_ {ok : Nat → Prop} {W : World} {l : List ParamD} {v : Value} {k : Nat} {a : ParamD} (h : ParamsAt ok W l v) (hk : l[k]? = some a) : ∃ g o c, v = .slice (some ⟨g, o, none⟩) l.length c ∧ l.length ≤ c ∧ c ≤ maxLen ∧
    W.cell? ⟨g, o + k * 3, none⟩ = some (.string (mkB a.name)) ∧ W.cell? ⟨g, o + k * 3 + 1, none⟩ = some (.string (mkB a.type)) ∧ W.cell? ⟨g, o + k * 3 + 2, none⟩ = some (.int .i64 a.at_) := by
  obtain ⟨ao, c, rfl, h1, h2, h3⟩ := h
  have hne : l ≠ [] := by rintro e; rw [e] at hk; simp at hk
  obtain ⟨g, o, rfl, _, hc⟩ := h3 hne
  exact ⟨g, o, c, rfl, h1, h2, hc k a 0 _ hk rfl, hc k a 1 _ hk rfl, hc k a 2 _ hk rfl⟩
theorem MethodsAt.at_ {ok : Nat → Prop} {W : World} {l : List MethodD} {v : Value} {k : Nat} {a : MethodD} (h : MethodsAt ok W l v) (hk : l[k]? = some a) : ∃ g o c tv kv, v = .slice (some ⟨g, o, none⟩) l.length c ∧ l.length ≤ c ∧ c ≤ maxLen ∧ MethodIn ok W a tv kv ∧
    W.cell? ⟨g, o + k * 10, none⟩ = some (.string (mkB a.name)) ∧ W.cell? ⟨g, o + k * 10 + 1, none⟩ = some (.string (mkB a.gives)) ∧ W.cell? ⟨g, o + k * 10 + 2, none⟩ = some tv ∧ W.cell? ⟨g, o + k * 10 + 3, none⟩ = some (.int .i64 a.body.op) ∧ W.cell? ⟨g, o + k * 10 + 4, none⟩ = some (.string (mkB a.body.text)) ∧ W.cell? ⟨g, o + k * 10 + 5, none⟩ = some (.string (mkB a.body.type)) ∧ W.cell? ⟨g, o + k * 10 + 6, none⟩ = some (.int .i64 a.body.n) ∧ W.cell? ⟨g, o + k * 10 + 7, none⟩ = some kv ∧ W.cell? ⟨g, o + k * 10 + 8, none⟩ = some (.int .i64 a.body.at_) ∧ W.cell? ⟨g, o + k * 10 + 9, none⟩ = some (.int .i64 a.at_) := by
  obtain ⟨ao, c, rfl, h1, h2, tv, kv, h3, h4⟩ := h
  have hne : l ≠ [] := by rintro e; rw [e] at hk; simp at hk
  obtain ⟨g, o, rfl, _, hc⟩ := h4 hne
  exact ⟨g, o, c, tv k, kv k, rfl, h1, h2, h3 k a hk, hc k a 0 _ hk rfl, hc k a 1 _ hk rfl, hc k a 2 _ hk rfl, hc k a 3 _ hk rfl, hc k a 4 _ hk rfl, hc k a 5 _ hk rfl, hc k a 6 _ hk rfl, hc k a 7 _ hk rfl, hc k a 8 _ hk rfl, hc k a 9 _ hk rfl⟩
theorem ClassesAt.at_ {ok : Nat → Prop} {W : World} {l : List ClassD} {v : Value} {k : Nat} {a : ClassD} (h : ClassesAt ok W l v) (hk : l[k]? = some a) : ∃ g o c tv kv, v = .slice (some ⟨g, o, none⟩) l.length c ∧ l.length ≤ c ∧ c ≤ maxLen ∧ ClassIn ok W a tv kv ∧
    W.cell? ⟨g, o + k * 5, none⟩ = some (.string (mkB a.name)) ∧ W.cell? ⟨g, o + k * 5 + 1, none⟩ = some (.string (mkB a.super)) ∧ W.cell? ⟨g, o + k * 5 + 2, none⟩ = some tv ∧ W.cell? ⟨g, o + k * 5 + 3, none⟩ = some kv ∧ W.cell? ⟨g, o + k * 5 + 4, none⟩ = some (.int .i64 a.at_) := by
  obtain ⟨ao, c, rfl, h1, h2, tv, kv, h3, h4⟩ := h
  have hne : l ≠ [] := by rintro e; rw [e] at hk; simp at hk
  obtain ⟨g, o, rfl, _, hc⟩ := h4 hne
  exact ⟨g, o, c, tv k, kv k, rfl, h1, h2, h3 k a hk, hc k a 0 _ hk rfl, hc k a 1 _ hk rfl, hc k a 2 _ hk rfl, hc k a 3 _ hk rfl, hc k a 4 _ hk rfl⟩
abbrev ParamsIn (W : World) (l : List ParamD) (v : Value) : Prop := ParamsAt AllB W l v
abbrev MethodsIn (W : World) (l : List MethodD) (v : Value) : Prop := MethodsAt AllB W l v
abbrev ClassesIn (W : World) (l : List ClassD) (v : Value) : Prop := ClassesAt AllB W l v
theorem ParamsAt.all {ok : Nat → Prop} {W : World} {l : List ParamD} {v : Value} (h : ParamsAt ok W l v) : ParamsIn W l v := h.keep (fun _ _ _ => trivial) (fun _ _ _ => rfl)
theorem MethodsAt.all {ok : Nat → Prop} {W : World} {l : List MethodD} {v : Value} (h : MethodsAt ok W l v) : MethodsIn W l v := h.keep (fun _ _ _ => trivial) (fun _ _ _ => rfl)
theorem ClassesAt.all {ok : Nat → Prop} {W : World} {l : List ClassD} {v : Value} (h : ClassesAt ok W l v) : ClassesIn W l v := h.keep (fun _ _ _ => trivial) (fun _ _ _ => rfl)
theorem ParamsAt.later {W W' : World} {l : List ParamD} {v : Value} (h : ParamsIn W l v) (hb : Below W.heap.size W W') : ParamsIn W' l v := h.keep (fun _ _ _ => trivial) (fun k _ hl => hb.block k hl)
theorem MethodsAt.later {W W' : World} {l : List MethodD} {v : Value} (h : MethodsIn W l v) (hb : Below W.heap.size W W') : MethodsIn W' l v := h.keep (fun _ _ _ => trivial) (fun k _ hl => hb.block k hl)
theorem ClassesAt.later {W W' : World} {l : List ClassD} {v : Value} (h : ClassesIn W l v) (hb : Below W.heap.size W W') : ClassesIn W' l v := h.keep (fun _ _ _ => trivial) (fun k _ hl => hb.block k hl)
end Go.Proofs.YtcaigcmbgihhkaaGreatDoor
namespace Go.Proofs.YtcaigcmbgihhkaaGreatDoor
open Go Go.RowKit Go.Shelf
set_option linter.unusedVariables false
set_option linter.unusedSimpArgs false
attribute [local go_sem] Oper.semAt_some
def knownP : ByteArray := ⟨#[99, 108, 97, 115, 115, 32, 65, 32, 123, 32, 109, 101, 116, 104, 111, 100, 32, 105, 110, 116, 32, 109, 40, 105, 110, 116, 32, 97, 41, 32, 123, 32, 114, 101, 116, 117, 114, 110, 32, 97, 32, 43, 32, 49, 59, 32, 125, 32, 125]⟩
def kTwo : NodeD := .mk 17 [43] [] 0 [.mk 7 [97] [] 0 [] 39, .mk 1 [] [] 1 [] 43] 41
def kRet : NodeD := .mk 25 [] [] 0 [kTwo] 32
def kMeth : MethodD := ⟨[109], [73], [⟨[97], [73], 27⟩], .mk 31 [] [] 0 [kRet] 30, 21⟩
def kClass : ClassD := ⟨[65], objectL, [], [kMeth], 6⟩
theorem known_parse : parseL (bl knownP) = .ok [kClass] := by kernel_rfl
theorem known_call (w : World) (hS : SpaceAt w) : Calls Tryz.prog 16 #[.string knownP] w fun e w' => Below w.heap.size w w' ∧ ParseR w.heap.size (.ok [kClass]) e w' := by
  rw [← known_parse]
  exact parse_any w knownP (by decide +kernel) hS
set_option maxRecDepth 100000 in
set_option maxHeartbeats 4000000 in
theorem known25_any (w : World) (hS : SpaceAt w) : Calls Tryz.prog 15 #[] w fun e w' => e = .returned (.bool true) ∧ Below w.heap.size w w' := by
  have HP := Lib.hid (known_call w hS)
  clear hS
  rw [show knownP = _ from rfl] at HP
  go_enter Tryz.func15, Tryz.ntmps15
  go_wp2_with fail
  refine HP.out.mono ?_
  rintro e w1 ⟨hb, hq⟩
  obtain ⟨v, rfl, hc⟩ := hq
  obtain ⟨g, o, c, tv, kv, rfl, c1, c2, ⟨hf, hm⟩, a0, a1, a2, a3, a4⟩ := hc.at_ (k := 0) (a := kClass) rfl
  obtain ⟨g', o', c', tv', kv', rfl, c1', c2', ⟨ht, hk⟩, b0, b1, b2, b3, b4, b5, b6, b7, b8, b9⟩ := hm.at_ (k := 0) (a := kMeth) rfl
  obtain ⟨g2, o2, c3, va, rfl, d1, d2, hka, e0, e1, e2, e3, e4, e5⟩ := hk.six (k := 0) (a := kRet) rfl
  obtain ⟨g3, o3, c4, vb, rfl, d1', d2', hkb, f0, f1, f2, f3, f4, f5⟩ := hka.six (k := 0) (a := kTwo) rfl
  obtain ⟨g4, o4, c5, vc, rfl, d3, d4, hkc, h0, h1, h2, h3, h4, h5⟩ := hkb.six (k := 0) (a := .mk 7 [97] [] 0 [] 39) rfl
  obtain ⟨g5, o5, c6, vd, e, d5, d6, hkd, i0, i1, i2, i3, i4, i5⟩ := hkb.six (k := 1) (a := .mk 1 [] [] 1 [] 43) rfl
  simp only [Value.slice.injEq, Option.some.injEq, Addr.mk.injEq] at e
  obtain ⟨⟨rfl, rfl, -⟩, -, rfl⟩ := e
  obtain ⟨fa, fc, rfl⟩ := hf.form
  obtain ⟨ta, tc, rfl⟩ := ht.form
  obtain ⟨za, zc, rfl⟩ := hkc.form
  obtain ⟨ya, yc, rfl⟩ := hkd.form
  have q1 : mkB objectL = ⟨#[79, 98, 106, 101, 99, 116]⟩ := rfl
  have q2 : mkB [43] = ⟨#[43]⟩ := rfl
  have n1 : ∀ x : MethodD, [x].length = 1 := fun _ => rfl
  have n2 : ∀ x : NodeD, [x].length = 1 := fun _ => rfl
  have n4 : ∀ x y : NodeD, [x, y].length = 2 := fun _ _ => rfl
  have n5 : ∀ x : ClassD, [x].length = 1 := fun _ => rfl
  have KB := Lib.hid (show KidsIn w1 kTwo.kids _ from hkb.all)
  simp only [kClass, kMeth, kRet, kTwo, Nat.zero_mul, Nat.one_mul, Nat.add_zero, q1, q2, n1, n2, n4, n5, NodeD.op, NodeD.text, NodeD.type, NodeD.n, NodeD.kids, NodeD.at_] at a0 a1 a2 a3 a4 b0 b1 b2 b3 b4 b5 b6 b7 b8 b9 e0 e1 e2 e3 e4 e5 f0 f1 f2 f3 f4 f5 h0 h1 h2 h3 h4 h5 i0 i1 i2 i3 i4 i5 c1 c1' d1 d1' d3 d5 ⊢
  have HB := Lib.hid hb
  have l0 := cell_lt a0
  have l1 := cell_lt b0
  have l2 := cell_lt e0
  have l3 := cell_lt f0
  have l4 := cell_lt h0
  clear hb hc hf hm ht hk hka hkb hkc hkd q1 q2 n1 n2 n4 n5
  go_wp2_with fail
  refine (same_any kTwo kTwo _ _ _ ((KB.out.alloc _).alloc _) ((KB.out.alloc _).alloc _)).mono ?_
  rintro e w2 ⟨rfl, hb2⟩
  rw [(sameN_iff kTwo kTwo).2 rfl]
  have HB2 := Lib.hid (HB.out.trans ((((Below.refl w.heap.size w1).alloc HB.out.size (.cells #[.int .i64 31, .string (mkB []), .string (mkB []), .int .i64 0, .slice (some ⟨g2, o2, none⟩) 1 c3, .int .i64 30] 79)).alloc (by have := HB.out.size; simp; omega) (.cells #[.int .i64 17, .string ⟨#[43]⟩, .string (mkB []), .int .i64 0, .slice (some ⟨g4, o4, none⟩) 2 c5, .int .i64 41] 79)).trans (hb2.mono (by have := HB.out.size; simp; omega))))
  clear hb2
  go_wp2_with fail
  go_ret
  exact ⟨rfl, HB2.out⟩
end Go.Proofs.YtcaigcmbgihhkaaGreatDoor
