/-
  'right', 'Check' and the document's 'Check': contracts.
-/
import Derived.Test.YtmlcififmjpcpaaDoorInsNames
namespace Go.Proofs.YtmlcififmjpcpaaDoor
open Go.RowKit
set_option linter.unusedVariables false
set_option linter.unusedSimpArgs false

attribute [local go_sem] Oper.semAt_some

structure ConstD where
  kind : Int
  n : Int
  s : ByteArray
  t : ByteArray
  u : ByteArray

def ccells (x : ConstD) : List Value := [.int .i64 x.kind, .int .i64 x.n, .string x.s, .string x.t, .string x.u]
theorem ccells_len (x : ConstD) : (ccells x).length = 5 := rfl
def ConstsIn (n : Nat) (W : World) (v : Value) (xs : List ConstD) : Prop := SliceIn n 5 W v xs.length (xs.flatMap ccells)

def insRight (x : InsD) (cs : List ConstD) (size locals : Int) : Bool :=
  if insKind x.op = -1 then false else if insKind x.op = 0 then x.a == 0 else if insKind x.op = 6 then decide (0 ≤ x.a) && decide (x.a < locals)
  else if insKind x.op = 7 then decide (0 ≤ x.a) && decide (x.a < size)
  else match decide (0 ≤ x.a), cs[x.a.toNat]? with | true, some c => c.kind == insKind x.op | _, _ => false

set_option maxRecDepth 100000 in
set_option maxHeartbeats 2000000 in
theorem right_any (W : World) (cv : Value) (x : InsD) (cs : List ConstD) (size locals : Int) (hF : FormsAt W) (hc : ConstsIn W.heap.size W cv cs) :
    Calls Tryd.prog 34 #[.agg #[.int .i64 x.op, .int .i64 x.a], cv, .int .i64 size, .int .i64 locals] W fun e W' => e = .returned (.bool (insRight x cs size locals)) ∧ Below W.heap.size W W' := by
  obtain ⟨op, a⟩ := x
  have hz := hF.pos
  have hkind : ∀ w2 : World, Below W.heap.size W w2 → Calls Tryd.prog 7 #[.int .i64 op] w2 fun e W' => e = .returned (.int .i64 (insKind op)) ∧ Below w2.heap.size w2 W' := fun w2 h => kind_any w2 op (hF.mono hz h) (Nat.lt_of_lt_of_le hz h.size)
  have hkind' := Lib.hid hkind
  have hba := (Below.refl W.heap.size W).alloc (Nat.le_refl _) (.cells #[.int .i64 op, .int .i64 a] 55)
  have hnew := Blk.new W 55 #[.int .i64 op, .int .i64 a]
  have hba' := Lib.hid hba
  have hnew' := Lib.hid hnew
  have hdef : insRight ⟨op, a⟩ cs size locals = (if insKind op = -1 then false else if insKind op = 0 then a == 0 else if insKind op = 6 then decide (0 ≤ a) && decide (a < locals)
    else if insKind op = 7 then decide (0 ≤ a) && decide (a < size)
    else match decide (0 ≤ a), cs[a.toNat]? with | true, some c => c.kind == insKind op | _, _ => false) := rfl
  obtain ⟨r, hr⟩ : ∃ r, r = insRight ⟨op, a⟩ cs size locals := ⟨_, rfl⟩
  rw [← hr]
  rw [hdef] at hr
  clear hdef hkind hba hnew hF
  generalize insKind op = kd at hkind' hr
  by_cases k1 : kd = -1
  · rw [if_pos k1] at hr
    subst hr k1
    clear hc
    go_enter Tryd.func34, Tryd.ntmps34
    go_wp2_with (go_at_call 7; refine (hkind'.out _ hba'.out).mono ?_; rintro e w2 ⟨rfl, hb2⟩; have hx0 := (hnew'.out.below hb2 (by simp)).cell 0; have hx1 := (hnew'.out.below hb2 (by simp)).cell 1; have hb2' := Lib.hid (hba'.out.trans (hb2.mono (by simp))); clear hb2)
    go_ret
    exact ⟨rfl, hb2'.out⟩
  have n1 : (kd == -1) = false := beq_eq_false_iff_ne.2 k1
  rw [if_neg k1] at hr
  clear k1
  by_cases k2 : kd = 0
  · rw [if_pos k2] at hr
    subst hr k2
    clear hc n1
    go_enter Tryd.func34, Tryd.ntmps34
    go_wp2_with (go_at_call 7; refine (hkind'.out _ hba'.out).mono ?_; rintro e w2 ⟨rfl, hb2⟩; have hx0 := (hnew'.out.below hb2 (by simp)).cell 0; have hx1 := (hnew'.out.below hb2 (by simp)).cell 1; have hb2' := Lib.hid (hba'.out.trans (hb2.mono (by simp))); clear hb2)
    go_ret
    exact ⟨rfl, hb2'.out⟩
  have n2 : (kd == 0) = false := beq_eq_false_iff_ne.2 k2
  rw [if_neg k2] at hr
  clear k2
  by_cases k3 : kd = 6
  · rw [if_pos k3] at hr
    subst k3
    clear hc n1 n2
    cases h0 : decide (0 ≤ a)
    all_goals
      rw [h0] at hr
      simp only [Bool.false_and, Bool.true_and] at hr
      subst hr
      go_enter Tryd.func34, Tryd.ntmps34
      go_wp2_with (go_at_call 7; refine (hkind'.out _ hba'.out).mono ?_; rintro e w2 ⟨rfl, hb2⟩; have hx0 := (hnew'.out.below hb2 (by simp)).cell 0; have hx1 := (hnew'.out.below hb2 (by simp)).cell 1; have hb2' := Lib.hid (hba'.out.trans (hb2.mono (by simp))); clear hb2)
      go_ret
      exact ⟨rfl, hb2'.out⟩
  have n3 : (kd == 6) = false := beq_eq_false_iff_ne.2 k3
  rw [if_neg k3] at hr
  clear k3
  by_cases k4 : kd = 7
  · rw [if_pos k4] at hr
    subst k4
    clear hc n1 n2 n3
    cases h0 : decide (0 ≤ a)
    all_goals
      rw [h0] at hr
      simp only [Bool.false_and, Bool.true_and] at hr
      subst hr
      go_enter Tryd.func34, Tryd.ntmps34
      go_wp2_with (go_at_call 7; refine (hkind'.out _ hba'.out).mono ?_; rintro e w2 ⟨rfl, hb2⟩; have hx0 := (hnew'.out.below hb2 (by simp)).cell 0; have hx1 := (hnew'.out.below hb2 (by simp)).cell 1; have hb2' := Lib.hid (hba'.out.trans (hb2.mono (by simp))); clear hb2)
      go_ret
      exact ⟨rfl, hb2'.out⟩
  have n4 : (kd == 7) = false := beq_eq_false_iff_ne.2 k4
  rw [if_neg k4] at hr
  clear k4
  obtain ⟨ao, cap, rfl, hn, hm, hao⟩ := SliceIn.form hc
  by_cases h0 : 0 ≤ a
  · obtain ⟨j, rfl⟩ : ∃ j : Nat, a = j := ⟨a.toNat, by omega⟩
    rw [decide_eq_true h0] at hr
    clear h0
    rw [Int.toNat_natCast] at hr
    by_cases hj : j < cs.length
    · obtain ⟨⟨ck, cn, c1, c2, c3⟩, hx⟩ : ∃ x, cs[j]? = some x := ⟨_, List.getElem?_eq_getElem hj⟩
      rw [hx] at hr
      dsimp only at hr
      cases ao with
      | none => have := (hao rfl).1; omega
      | some b =>
        have hcell : ∀ w2, Below W.heap.size W w2 → w2.cell? (b.add (j * 5)) = some (.int .i64 ck) := fun w2 h => (SliceIn.later hc (Nat.le_refl _) h).first rfl (by have := flatMap_get ccells 5 ccells_len cs j 0 _ hx (by omega); exact this)
        have hcell' := Lib.hid hcell
        clear hcell hc hx hao
        subst hr
        have hjb : decide ((j : Int) < (cs.length : Int)) = true := decide_eq_true (by omega)
        go_enter Tryd.func34, Tryd.ntmps34
        go_wp2_with (go_at_call 7; refine (hkind'.out _ hba'.out).mono ?_; rintro e w2 ⟨rfl, hb2⟩; have hx0 := (hnew'.out.below hb2 (by simp)).cell 0; have hx1 := (hnew'.out.below hb2 (by simp)).cell 1; have hb2' := Lib.hid (hba'.out.trans (hb2.mono (by simp))); have hcc := hcell'.out _ hb2'.out; clear hb2)
        go_ret
        exact ⟨rfl, hb2'.out⟩
    · rw [List.getElem?_eq_none (by omega)] at hr
      dsimp only at hr
      subst hr
      clear hc hao
      have hjb : decide ((j : Int) < (cs.length : Int)) = false := decide_eq_false (by omega)
      go_enter Tryd.func34, Tryd.ntmps34
      go_wp2_with (go_at_call 7; refine (hkind'.out _ hba'.out).mono ?_; rintro e w2 ⟨rfl, hb2⟩; have hx0 := (hnew'.out.below hb2 (by simp)).cell 0; have hx1 := (hnew'.out.below hb2 (by simp)).cell 1; have hb2' := Lib.hid (hba'.out.trans (hb2.mono (by simp))); clear hb2)
      go_ret
      exact ⟨rfl, hb2'.out⟩
  · rw [decide_eq_false h0] at hr
    dsimp only at hr
    subst hr
    have h0b : decide (0 ≤ a) = false := decide_eq_false h0
    clear hc hao h0
    go_enter Tryd.func34, Tryd.ntmps34
    go_wp2_with (go_at_call 7; refine (hkind'.out _ hba'.out).mono ?_; rintro e w2 ⟨rfl, hb2⟩; have hx0 := (hnew'.out.below hb2 (by simp)).cell 0; have hx1 := (hnew'.out.below hb2 (by simp)).cell 1; have hb2' := Lib.hid (hba'.out.trans (hb2.mono (by simp))); clear hb2)
    go_ret
    exact ⟨rfl, hb2'.out⟩

set_option maxRecDepth 100000 in
set_option maxHeartbeats 1000000 in
theorem closure_any (W : World) (B1 B2 B3 : Nat) (cv : Value) (ao : Option Addr) (len cap : Nat) (x : InsD) (cs : List ConstD) (locals : Int) (hF : FormsAt W) (hc : ConstsIn W.heap.size W cv cs)
    (h1 : W.cell? ⟨B1, 0, none⟩ = some cv) (h2 : W.cell? ⟨B2, 0, none⟩ = some (.slice ao len cap)) (h3 : W.cell? ⟨B3, 0, none⟩ = some (.int .i64 locals)) :
    Calls Tryd.prog 33 #[.agg #[.int .i64 x.op, .int .i64 x.a], .pointer (some ⟨B1, 0, none⟩), .pointer (some ⟨B2, 0, none⟩), .pointer (some ⟨B3, 0, none⟩)] W fun e W' => e = .returned (.bool (!insRight x cs len locals)) ∧ Below W.heap.size W W' := by
  obtain ⟨op, a⟩ := x
  have hz := hF.pos
  have hba := (Below.refl W.heap.size W).alloc (Nat.le_refl _) (.cells #[.int .i64 op, .int .i64 a] 55)
  have g1 := (hba.cell (p := ⟨B1, 0, none⟩) (World.block_lt_of_cell? _ _ h1)).trans h1
  have g2 := (hba.cell (p := ⟨B2, 0, none⟩) (World.block_lt_of_cell? _ _ h2)).trans h2
  have g3 := (hba.cell (p := ⟨B3, 0, none⟩) (World.block_lt_of_cell? _ _ h3)).trans h3
  have hr := right_any _ cv ⟨op, a⟩ cs len locals (hF.mono hz hba) ((SliceIn.later hc (Nat.le_refl _) hba).up hba.size)
  have hba' := Lib.hid hba
  obtain ⟨ao2, cap2, rfl, _⟩ := SliceIn.form hc
  generalize insRight ⟨op, a⟩ cs len locals = r at hr ⊢
  dsimp only at hr ⊢
  clear hF hc hba h1 h2 h3
  go_enter Tryd.func33, Tryd.ntmps33
  go_wp2_with (go_at_call 34; refine hr.mono ?_; rintro e w2 ⟨rfl, hb2⟩; have hb2' := Lib.hid (hba'.out.trans (hb2.mono hba'.out.size)); clear hb2)
  go_ret
  exact ⟨rfl, hb2'.out⟩

/-- The first element from place k on that p takes. -/
def firstFrom {α : Type} (p : α → Bool) : List α → Nat → Int
  | [], _ => -1
  | x :: r, k => if p x then (k : Int) else firstFrom p r (k + 1)
theorem firstFrom_bounds {α : Type} (p : α → Bool) : ∀ (xs : List α) (k : Nat), firstFrom p xs k = -1 ∨ ((k : Int) ≤ firstFrom p xs k ∧ firstFrom p xs k < k + xs.length)
  | [], k => .inl rfl
  | x :: r, k => by
    rw [firstFrom]
    split
    · right; simp only [List.length_cons]; omega
    · rcases firstFrom_bounds p r (k + 1) with h | h
      · exact .inl h
      · right; simp only [List.length_cons]; omega

set_option maxRecDepth 100000 in
set_option maxHeartbeats 1000000 in
theorem indexIns_any (W : World) (code : List InsD) (sv : Value) (p : InsD → Bool) (B1 B2 B3 : Nat) (hc : CodeIn W.heap.size W sv code)
    (hp : ∀ (w2 : World) (x : InsD), Below W.heap.size W w2 → Calls Tryd.prog 33 #[.agg #[.int .i64 x.op, .int .i64 x.a], .pointer (some ⟨B1, 0, none⟩), .pointer (some ⟨B2, 0, none⟩), .pointer (some ⟨B3, 0, none⟩)] w2 fun e W' => e = .returned (.bool (p x)) ∧ Below w2.heap.size w2 W') (hreach : code.length ≤ 1000000) :
    Calls Tryd.prog 32 #[sv, .func (.func 33) #[] #[.pointer (some ⟨B1, 0, none⟩), .pointer (some ⟨B2, 0, none⟩), .pointer (some ⟨B3, 0, none⟩)]] W fun e W' => e = .returned (.int .i64 (firstFrom p code 0)) ∧ Below W.heap.size W W' := by
  obtain ⟨ao, cap, rfl, _⟩ := SliceIn.form hc
  have hp' := Lib.hid hp
  have hc' := Lib.hid hc
  have hb0 := Below.refl W.heap.size W
  clear hp hc
  go_enter Tryd.func32, Tryd.ntmps32
  go_wp2
  go_loopw [8] (fun i wr => ∃ k : Nat, k ≤ code.length ∧ i = .int .i64 k ∧ Hid (firstFrom p (code.drop k) k = firstFrom p code 0) ∧ Hid (Below W.heap.size W wr)) (fun i _ => code.length - (intOf i).toNat)
  case atStart => exact ⟨0, Nat.zero_le _, rfl, rfl, hb0⟩
  case round =>
    obtain ⟨k, hk, rfl, hf, hb⟩ := hrel
    by_cases hlt : k < code.length
    · obtain ⟨⟨op, a⟩, hx⟩ : ∃ x, code[k]? = some x := ⟨_, List.getElem?_eq_getElem hlt⟩
      obtain ⟨b, cap', hcv, hcap'⟩ := SliceIn.some_ hc'.out (by omega)
      cases hcv
      obtain ⟨hc0, hc1⟩ := code_at hc'.out (Nat.le_refl _) hb.out rfl hx
      have hcall := hp'.out wr ⟨op, a⟩ hb.out
      have hfo := hf.out
      rw [drop_get hx, firstFrom] at hfo
      dsimp only at hcall
      cases hpx : p ⟨op, a⟩
      · rw [hpx] at hcall hfo
        have hfo' := Lib.hid hfo
        clear hpx hx hf hfo
        go_wp2_with (go_at_call 33; refine hcall.mono ?_; rintro e w2 ⟨rfl, hb2⟩; have hb2' := Lib.hid hb2; clear hb2)
        go_roundw
        case rel => exact ⟨k + 1, by omega, by simp, Lib.hid (by have := hfo'.out; simpa using this), hb.out.trans (hb2'.out.mono hb.out.size)⟩
        case measure => simp [intOf]; omega
      · rw [hpx] at hcall hfo
        have hfo' := Lib.hid hfo
        clear hpx hx hf hfo
        go_wp2_with (go_at_call 33; refine hcall.mono ?_; rintro e w2 ⟨rfl, hb2⟩; have hb2' := Lib.hid hb2; clear hb2)
        go_ret
        exact ⟨by rw [← hfo'.out]; rfl, hb.out.trans (hb2'.out.mono hb.out.size)⟩
    · obtain rfl : k = code.length := by omega
      have hfo := hf.out
      rw [List.drop_length, firstFrom] at hfo
      have hfo' := Lib.hid hfo
      clear hfo hf
      go_wp2
      go_ret
      exact ⟨by rw [← hfo'.out]; rfl, hb.out⟩

/-- What 'Check' answers. -/
def checkL (code : List InsD) (cs : List ConstD) (locals : Int) : Int × Int :=
  if code.length = 0 ∨ code.length > 512 then (0, 6) else if firstFrom (fun x => !insRight x cs code.length locals) code 0 = -1 then (0, 0) else (firstFrom (fun x => !insRight x cs code.length locals) code 0, 12)

set_option maxRecDepth 100000 in
set_option maxHeartbeats 2000000 in
theorem check_any (W : World) (code : List InsD) (cs : List ConstD) (sv cv : Value) (locals : Int) (hF : FormsAt W) (hs : CodeIn W.heap.size W sv code) (hc : ConstsIn W.heap.size W cv cs) (hreach : code.length ≤ 600) :
    Calls Tryd.prog 14 #[sv, cv, .int .i64 locals] W fun e W' => e = .returned (.tuple #[.int .i64 (checkL code cs locals).1, .int .i64 (checkL code cs locals).2]) ∧ Below W.heap.size W W' := by
  have hz := hF.pos
  obtain ⟨ao, cap, rfl, hcap, _⟩ := SliceIn.form hs
  obtain ⟨ao2, cap2, rfl, hcap2, _⟩ := SliceIn.form hc
  obtain ⟨⟨r1, r2⟩, hR⟩ : ∃ R, R = checkL code cs locals := ⟨_, rfl⟩
  rw [← hR]
  dsimp only
  by_cases h0 : code.length = 0
  · rw [checkL, if_pos (.inl h0)] at hR
    cases hR
    have hb : ((code.length : Int) == 0) = true := by rw [h0]; rfl
    clear hF hs hc
    go_enter Tryd.func14, Tryd.ntmps14
    go_wp2
    go_ret2
    exact ⟨rfl, (((Below.refl W.heap.size W).alloc (Nat.le_refl _) _).alloc (by simp) _).alloc (by simp; omega) _⟩
  have hb0 : ((code.length : Int) == 0) = false := beq_eq_false_iff_ne.2 (by omega)
  by_cases h1 : code.length > 512
  · rw [checkL, if_pos (.inr h1)] at hR
    cases hR
    have hb : decide (512 < (code.length : Int)) = true := decide_eq_true (by omega)
    clear hF hs hc h0 h1
    go_enter Tryd.func14, Tryd.ntmps14
    go_wp2
    go_ret2
    exact ⟨rfl, (((Below.refl W.heap.size W).alloc (Nat.le_refl _) _).alloc (by simp) _).alloc (by simp; omega) _⟩
  · have hb1 : decide (512 < (code.length : Int)) = false := decide_eq_false (by omega)
    rw [checkL, if_neg (by omega)] at hR
    obtain ⟨W3, hW3⟩ : ∃ W3, W3 = ((W.alloc (.cells #[.slice ao code.length cap] 27)).alloc (.cells #[.slice ao2 cs.length cap2] 28)).alloc (.cells #[.int .i64 locals] 3) := ⟨_, rfl⟩
    have hbl : Below W.heap.size W W3 := by rw [hW3]; exact (((Below.refl W.heap.size W).alloc (Nat.le_refl _) _).alloc (by simp) _).alloc (by simp; omega) _
    have c2 : W3.cell? ⟨W.heap.size, 0, none⟩ = some (.slice ao code.length cap) := by
      rw [hW3]
      exact ((((Blk.new W 27 #[.slice ao code.length cap]).alloc _).alloc _).cell 0)
    have c1 : W3.cell? ⟨W.heap.size + 1, 0, none⟩ = some (.slice ao2 cs.length cap2) := by
      rw [hW3]
      have := ((Blk.new (W.alloc (.cells #[.slice ao code.length cap] 27)) 28 #[.slice ao2 cs.length cap2]).alloc (.cells #[.int .i64 locals] 3)).cell 0
      simpa using this
    have c3 : W3.cell? ⟨W.heap.size + 1 + 1, 0, none⟩ = some (.int .i64 locals) := by
      rw [hW3]
      have := ((Blk.new ((W.alloc (.cells #[.slice ao code.length cap] 27)).alloc (.cells #[.slice ao2 cs.length cap2] 28)) 3 #[.int .i64 locals])).cell 0
      simpa using this
    have hs3 := (SliceIn.later hs (Nat.le_refl _) hbl).up hbl.size
    have hc3 := (SliceIn.later hc (Nat.le_refl _) hbl).up hbl.size
    have hF3 := hF.mono hz hbl
    have hcall := indexIns_any W3 code _ (fun x => !insRight x cs code.length locals) (W.heap.size + 1) W.heap.size (W.heap.size + 1 + 1) hs3
      (fun w2 x h => closure_any w2 (W.heap.size + 1) W.heap.size (W.heap.size + 1 + 1) _ ao code.length cap x cs locals (hF3.mono (Nat.lt_of_lt_of_le hz hbl.size) h) ((SliceIn.later hc3 (Nat.le_refl _) h).up h.size)
        ((h.cell (p := ⟨_, 0, none⟩) (World.block_lt_of_cell? _ _ c1)).trans c1) ((h.cell (p := ⟨_, 0, none⟩) (World.block_lt_of_cell? _ _ c2)).trans c2) ((h.cell (p := ⟨_, 0, none⟩) (World.block_lt_of_cell? _ _ c3)).trans c3)) (by omega)
    have hfb := firstFrom_bounds (fun x => !insRight x cs code.length locals) code 0
    generalize firstFrom (fun x => !insRight x cs code.length locals) code 0 = r at hcall hR hfb
    have hbl' := Lib.hid hbl
    have hcall' := Lib.hid hcall
    have hW3' := Lib.hid hW3
    clear hcall hbl hs3 hc3 hF3 hs hc hF c1 c2 c3 hW3
    by_cases hr : r = -1
    · rw [if_pos hr] at hR
      cases hR
      subst hr
      clear hfb
      go_enter Tryd.func14, Tryd.ntmps14
      go_wp2_with fail
      rw [← hW3'.out]
      refine hcall'.out.mono ?_
      rintro e w2 ⟨rfl, hb2⟩
      have hb2' := Lib.hid hb2
      clear hb2
      go_wp2
      go_ret2
      exact ⟨rfl, hbl'.out.trans (hb2'.out.mono hbl'.out.size)⟩
    · rw [if_neg hr] at hR
      have hr0 : decide (0 ≤ r) = true := decide_eq_true (by omega)
      cases hR
      clear hfb hr
      go_enter Tryd.func14, Tryd.ntmps14
      go_wp2_with fail
      rw [← hW3'.out]
      refine hcall'.out.mono ?_
      rintro e w2 ⟨rfl, hb2⟩
      have hb2' := Lib.hid hb2
      clear hb2
      go_wp2
      go_ret2
      exact ⟨rfl, hbl'.out.trans (hb2'.out.mono hbl'.out.size)⟩

theorem insKind_range (op : Int) : -1 ≤ insKind op ∧ insKind op ≤ 7 := by
  rcases insKnown_cases op with ⟨k, rfl, hk, _⟩ | ⟨hn, _⟩
  · have e : insKind (k : Int) = insKinds.getD k 0 := by rw [insKind, if_pos ⟨by omega, by omega⟩]; rfl
    rw [e]
    have : ∀ k : Fin 46, -1 ≤ insKinds.getD k.val 0 ∧ insKinds.getD k.val 0 ≤ 7 := by decide
    exact this ⟨k, hk⟩
  · rw [insKind, if_neg hn]
    omega

set_option maxRecDepth 100000 in
set_option maxHeartbeats 4000000 in
theorem refCheck_any (W : World) (code : List InsD) (cs : List ConstD) (sv cv : Value) (locals : Int) (hs : CodeIn W.heap.size W sv code) (hc : ConstsIn W.heap.size W cv cs) (hreach : code.length ≤ 600) :
    Calls Tryd.prog 15 #[sv, cv, .int .i64 locals] W fun e W' => e = .returned (.tuple #[.int .i64 (checkL code cs locals).1, .int .i64 (checkL code cs locals).2]) ∧ Below W.heap.size W W' := by
  obtain ⟨ao, cap, rfl, hcap, _⟩ := SliceIn.form hs
  obtain ⟨ao2, cap2, rfl, hcap2, _, hao2⟩ := SliceIn.form hc
  obtain ⟨⟨r1, r2⟩, hR⟩ : ∃ R, R = checkL code cs locals := ⟨_, rfl⟩
  rw [← hR]
  dsimp only
  by_cases h0 : code.length = 0
  · rw [checkL, if_pos (.inl h0)] at hR
    cases hR
    have hb : decide ((code.length : Int) < 1) = true := decide_eq_true (by omega)
    clear hs hc
    go_enter Tryd.func15, Tryd.ntmps15
    go_wp2
    go_ret2
    exact ⟨rfl, Below.refl _ _⟩
  have hb0 : decide ((code.length : Int) < 1) = false := decide_eq_false (by omega)
  by_cases h1 : code.length > 512
  · rw [checkL, if_pos (.inr h1)] at hR
    cases hR
    have hb : decide (512 < (code.length : Int)) = true := decide_eq_true (by omega)
    clear hs hc h0 h1
    go_enter Tryd.func15, Tryd.ntmps15
    go_wp2
    go_ret2
    exact ⟨rfl, Below.refl _ _⟩
  have hb1 : decide (512 < (code.length : Int)) = false := decide_eq_false (by omega)
  rw [checkL, if_neg (by omega)] at hR
  have hR' := Lib.hid hR
  have hs' := Lib.hid hs
  have hc' := Lib.hid hc
  have hbb := Below.refl W.heap.size W
  clear hs hc hR
  go_enter Tryd.func15, Tryd.ntmps15
  go_wp2
  go_loopw [8] (fun i wr => ∃ k : Nat, k ≤ code.length ∧ i = .int .i64 k ∧ Hid (firstFrom (fun x => !insRight x cs code.length locals) (code.drop k) k = firstFrom (fun x => !insRight x cs code.length locals) code 0) ∧ Hid (Below W.heap.size W wr)) (fun i _ => code.length - (intOf i).toNat)
  case atStart => exact ⟨0, Nat.zero_le _, rfl, rfl, hbb⟩
  case round =>
    obtain ⟨k, hk, rfl, hf, hb'⟩ := hrel
    by_cases hlt : k < code.length
    · obtain ⟨⟨op, a⟩, hx⟩ : ∃ x, code[k]? = some x := ⟨_, List.getElem?_eq_getElem hlt⟩
      obtain ⟨b, cap', hcv, hcap'⟩ := SliceIn.some_ hs'.out (by omega)
      cases hcv
      have hcell : ∀ w2, Below W.heap.size W w2 → w2.cell? (b.add (k * 2)) = some (.int .i64 op) ∧ w2.cell? ⟨(b.add (k * 2)).block, (b.add (k * 2)).off + 1, none⟩ = some (.int .i64 a) := fun w2 h => code_at hs'.out (Nat.le_refl _) h rfl hx
      have hx0 := (hcell wr hb'.out).1
      have hfo := hf.out
      rw [drop_get hx, firstFrom] at hfo
      have hkind := refKind_any wr op
      have hrg := insKind_range op
      have hdef : insRight ⟨op, a⟩ cs code.length locals = (if insKind op = -1 then false else if insKind op = 0 then a == 0 else if insKind op = 6 then decide (0 ≤ a) && decide (a < locals)
        else if insKind op = 7 then decide (0 ≤ a) && decide (a < (code.length : Int))
        else match decide (0 ≤ a), cs[a.toNat]? with | true, some c => c.kind == insKind op | _, _ => false) := rfl
      obtain ⟨r, hr⟩ : ∃ r, r = insRight ⟨op, a⟩ cs code.length locals := ⟨_, rfl⟩
      rw [← hr] at hfo
      rw [hdef] at hr
      generalize insKind op = kd at hkind hr hrg
      have hcell' := Lib.hid hcell
      have hkind' := Lib.hid hkind
      clear hdef hkind hcell hf hx
      by_cases k1 : kd = -1
      · rw [if_pos k1] at hr
        subst k1
        subst hr
        have hf' := Lib.hid hfo
        clear hfo
        go_wp2_with (go_at_call 8; refine hkind'.out.mono ?_; rintro e w2 ⟨rfl, hb2⟩; have hx1 := (hcell'.out w2 (hb'.out.trans (hb2.mono hb'.out.size))).2; have hb2' := Lib.hid (hb'.out.trans (hb2.mono hb'.out.size)); clear hb2)
        go_ret2
        have e := hf'.out
        simp only [Bool.false_and, Bool.true_and, Bool.not_false, if_true] at e
        have e2 := hR'.out
        rw [← e, if_neg (by omega)] at e2
        cases e2
        exact ⟨rfl, hb2'.out⟩
      rw [if_neg k1] at hr
      by_cases k2 : kd = 0
      · rw [if_pos k2] at hr
        subst k2
        cases h3 : (a == 0)
        · rw [h3] at hr
          subst hr
          have hf' := Lib.hid hfo
          clear hfo
          go_wp2_with (go_at_call 8; refine hkind'.out.mono ?_; rintro e w2 ⟨rfl, hb2⟩; have hx1 := (hcell'.out w2 (hb'.out.trans (hb2.mono hb'.out.size))).2; have hb2' := Lib.hid (hb'.out.trans (hb2.mono hb'.out.size)); clear hb2)
          go_ret2
          have e := hf'.out
          simp only [Bool.false_and, Bool.true_and, Bool.not_false, if_true] at e
          have e2 := hR'.out
          rw [← e, if_neg (by omega)] at e2
          cases e2
          exact ⟨rfl, hb2'.out⟩
        · rw [h3] at hr
          subst hr
          have hf' := Lib.hid hfo
          clear hfo
          go_wp2_with (go_at_call 8; refine hkind'.out.mono ?_; rintro e w2 ⟨rfl, hb2⟩; have hx1 := (hcell'.out w2 (hb'.out.trans (hb2.mono hb'.out.size))).2; have hb2' := Lib.hid (hb'.out.trans (hb2.mono hb'.out.size)); clear hb2)
          go_roundw
          case rel => exact ⟨k + 1, by omega, by simp, Lib.hid (by have := hf'.out; simpa using this), Lib.hid hb2'.out⟩
          case measure => simp [intOf]; omega
      rw [if_neg k2] at hr
      by_cases k3 : kd = 6
      · rw [if_pos k3] at hr
        subst k3
        cases h3 : decide (0 ≤ a)
        · rw [h3] at hr
          subst hr
          have hf' := Lib.hid hfo
          clear hfo
          go_wp2_with (go_at_call 8; refine hkind'.out.mono ?_; rintro e w2 ⟨rfl, hb2⟩; have hx1 := (hcell'.out w2 (hb'.out.trans (hb2.mono hb'.out.size))).2; have hb2' := Lib.hid (hb'.out.trans (hb2.mono hb'.out.size)); clear hb2)
          go_ret2
          have e := hf'.out
          simp only [Bool.false_and, Bool.true_and, Bool.not_false, if_true] at e
          have e2 := hR'.out
          rw [← e, if_neg (by omega)] at e2
          cases e2
          exact ⟨rfl, hb2'.out⟩
        · rw [h3] at hr
          cases h4 : decide (a < locals)
          · rw [h4] at hr
            subst hr
            have hf' := Lib.hid hfo
            clear hfo
            go_wp2_with (go_at_call 8; refine hkind'.out.mono ?_; rintro e w2 ⟨rfl, hb2⟩; have hx1 := (hcell'.out w2 (hb'.out.trans (hb2.mono hb'.out.size))).2; have hb2' := Lib.hid (hb'.out.trans (hb2.mono hb'.out.size)); clear hb2)
            go_ret2
            have e := hf'.out
            simp only [Bool.false_and, Bool.true_and, Bool.not_false, if_true] at e
            have e2 := hR'.out
            rw [← e, if_neg (by omega)] at e2
            cases e2
            exact ⟨rfl, hb2'.out⟩
          · rw [h4] at hr
            subst hr
            have hf' := Lib.hid hfo
            clear hfo
            go_wp2_with (go_at_call 8; refine hkind'.out.mono ?_; rintro e w2 ⟨rfl, hb2⟩; have hx1 := (hcell'.out w2 (hb'.out.trans (hb2.mono hb'.out.size))).2; have hb2' := Lib.hid (hb'.out.trans (hb2.mono hb'.out.size)); clear hb2)
            go_roundw
            case rel => exact ⟨k + 1, by omega, by simp, Lib.hid (by have := hf'.out; simpa using this), Lib.hid hb2'.out⟩
            case measure => simp [intOf]; omega
      rw [if_neg k3] at hr
      by_cases k4 : kd = 7
      · rw [if_pos k4] at hr
        subst k4
        cases h3 : decide (0 ≤ a)
        · rw [h3] at hr
          subst hr
          have hf' := Lib.hid hfo
          clear hfo
          go_wp2_with (go_at_call 8; refine hkind'.out.mono ?_; rintro e w2 ⟨rfl, hb2⟩; have hx1 := (hcell'.out w2 (hb'.out.trans (hb2.mono hb'.out.size))).2; have hb2' := Lib.hid (hb'.out.trans (hb2.mono hb'.out.size)); clear hb2)
          go_ret2
          have e := hf'.out
          simp only [Bool.false_and, Bool.true_and, Bool.not_false, if_true] at e
          have e2 := hR'.out
          rw [← e, if_neg (by omega)] at e2
          cases e2
          exact ⟨rfl, hb2'.out⟩
        · rw [h3] at hr
          cases h4 : decide (a < (code.length : Int))
          · rw [h4] at hr
            subst hr
            have hf' := Lib.hid hfo
            clear hfo
            go_wp2_with (go_at_call 8; refine hkind'.out.mono ?_; rintro e w2 ⟨rfl, hb2⟩; have hx1 := (hcell'.out w2 (hb'.out.trans (hb2.mono hb'.out.size))).2; have hb2' := Lib.hid (hb'.out.trans (hb2.mono hb'.out.size)); clear hb2)
            go_ret2
            have e := hf'.out
            simp only [Bool.false_and, Bool.true_and, Bool.not_false, if_true] at e
            have e2 := hR'.out
            rw [← e, if_neg (by omega)] at e2
            cases e2
            exact ⟨rfl, hb2'.out⟩
          · rw [h4] at hr
            subst hr
            have hf' := Lib.hid hfo
            clear hfo
            go_wp2_with (go_at_call 8; refine hkind'.out.mono ?_; rintro e w2 ⟨rfl, hb2⟩; have hx1 := (hcell'.out w2 (hb'.out.trans (hb2.mono hb'.out.size))).2; have hb2' := Lib.hid (hb'.out.trans (hb2.mono hb'.out.size)); clear hb2)
            go_roundw
            case rel => exact ⟨k + 1, by omega, by simp, Lib.hid (by have := hf'.out; simpa using this), Lib.hid hb2'.out⟩
            case measure => simp [intOf]; omega
      rw [if_neg k4] at hr
      have k5 : kd = 1 ∨ kd = 2 ∨ kd = 3 ∨ kd = 4 ∨ kd = 5 := by omega
      clear k1 k2 k3 k4 hrg
      by_cases h0a : 0 ≤ a
      · obtain ⟨j, rfl⟩ : ∃ j : Nat, a = j := ⟨a.toNat, by omega⟩
        rw [decide_eq_true h0a, Int.toNat_natCast] at hr
        clear h0a
        by_cases hj : j < cs.length
        · obtain ⟨⟨ck, cn, c1, c2, c3⟩, hcx⟩ : ∃ x, cs[j]? = some x := ⟨_, List.getElem?_eq_getElem hj⟩
          rw [hcx] at hr
          dsimp only at hr
          cases ao2 with
          | none => have := (hao2 rfl).1; omega
          | some b2 =>
            have hcc : ∀ w2, Below W.heap.size W w2 → w2.cell? (b2.add (j * 5)) = some (.int .i64 ck) := fun w2 h => (SliceIn.later hc'.out (Nat.le_refl _) h).first rfl (by have := flatMap_get ccells 5 ccells_len cs j 0 _ hcx (by omega); exact this)
            have hcc' := Lib.hid hcc
            clear hcc hcx hao2
            have hjb : decide ((j : Int) < (cs.length : Int)) = true := decide_eq_true (by omega)
            cases h6 : (ck == kd)
            · rw [h6] at hr
              subst hr
              have hf' := Lib.hid hfo
              clear hfo
              rcases k5 with rfl | rfl | rfl | rfl | rfl
              all_goals
                go_wp2_with (go_at_call 8; refine hkind'.out.mono ?_; rintro e w2 ⟨rfl, hb2⟩; have hx1 := (hcell'.out w2 (hb'.out.trans (hb2.mono hb'.out.size))).2; have hc2 := hcc'.out w2 (hb'.out.trans (hb2.mono hb'.out.size)); have hb2' := Lib.hid (hb'.out.trans (hb2.mono hb'.out.size)); clear hb2)
                go_ret2
                have e := hf'.out
                simp only [Bool.false_and, Bool.true_and, Bool.not_false, if_true] at e
                have e2 := hR'.out
                rw [← e, if_neg (by omega)] at e2
                cases e2
                exact ⟨rfl, hb2'.out⟩
            · rw [h6] at hr
              subst hr
              have hf' := Lib.hid hfo
              clear hfo
              rcases k5 with rfl | rfl | rfl | rfl | rfl
              all_goals
                go_wp2_with (go_at_call 8; refine hkind'.out.mono ?_; rintro e w2 ⟨rfl, hb2⟩; have hx1 := (hcell'.out w2 (hb'.out.trans (hb2.mono hb'.out.size))).2; have hc2 := hcc'.out w2 (hb'.out.trans (hb2.mono hb'.out.size)); have hb2' := Lib.hid (hb'.out.trans (hb2.mono hb'.out.size)); clear hb2)
                go_roundw
                case rel => exact ⟨k + 1, by omega, by simp, Lib.hid (by have := hf'.out; simpa using this), Lib.hid hb2'.out⟩
                case measure => simp [intOf]; omega
        · rw [List.getElem?_eq_none (by omega)] at hr
          dsimp only at hr
          subst hr
          have hf' := Lib.hid hfo
          have hjb : decide ((j : Int) < (cs.length : Int)) = false := decide_eq_false (by omega)
          clear hfo hao2
          rcases k5 with rfl | rfl | rfl | rfl | rfl
          all_goals
            go_wp2_with (go_at_call 8; refine hkind'.out.mono ?_; rintro e w2 ⟨rfl, hb2⟩; have hx1 := (hcell'.out w2 (hb'.out.trans (hb2.mono hb'.out.size))).2; have hb2' := Lib.hid (hb'.out.trans (hb2.mono hb'.out.size)); clear hb2)
            go_ret2
            have e := hf'.out
            simp only [Bool.false_and, Bool.true_and, Bool.not_false, if_true] at e
            have e2 := hR'.out
            rw [← e, if_neg (by omega)] at e2
            cases e2
            exact ⟨rfl, hb2'.out⟩
      · rw [decide_eq_false h0a] at hr
        dsimp only at hr
        subst hr
        have hf' := Lib.hid hfo
        have h0b : decide (0 ≤ a) = false := decide_eq_false h0a
        clear hfo hao2 h0a
        rcases k5 with rfl | rfl | rfl | rfl | rfl
        all_goals
          go_wp2_with (go_at_call 8; refine hkind'.out.mono ?_; rintro e w2 ⟨rfl, hb2⟩; have hx1 := (hcell'.out w2 (hb'.out.trans (hb2.mono hb'.out.size))).2; have hb2' := Lib.hid (hb'.out.trans (hb2.mono hb'.out.size)); clear hb2)
          go_ret2
          have e := hf'.out
          simp only [Bool.false_and, Bool.true_and, Bool.not_false, if_true] at e
          have e2 := hR'.out
          rw [← e, if_neg (by omega)] at e2
          cases e2
          exact ⟨rfl, hb2'.out⟩
    · obtain rfl : k = code.length := by omega
      have hfo := hf.out
      rw [List.drop_length, firstFrom] at hfo
      have hf' := Lib.hid hfo
      clear hfo hf
      go_wp2
      go_ret2
      have e2 := hR'.out
      rw [← hf'.out, if_pos rfl] at e2
      cases e2
      exact ⟨rfl, hb'.out⟩
end Go.Proofs.YtmlcififmjpcpaaDoor
