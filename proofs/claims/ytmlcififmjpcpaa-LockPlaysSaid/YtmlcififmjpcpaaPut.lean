/-
  'Put': the things that are held are others.
-/
import Derived.Test.YtmlcififmjpcpaaVals
namespace Go.Proofs.Ytmlcififmjpcpaa
open Go.RowKit
set_option linter.unusedVariables false

/-- What Put answers and leaves. -/
def putOk (hs : List Hold) (now : List Int) : Prop := now.length = hs.length ∧ now.Nodup ∧ ∀ x ∈ now, 1 ≤ x
instance (hs : List Hold) (now : List Int) : Decidable (putOk hs now) := inferInstanceAs (Decidable (_ ∧ _ ∧ _))
def putL (hs : List Hold) (now : List Int) : Int × List Hold :=
  if putOk hs now then (0, List.zipWith (fun a h => ⟨a, h.who, h.n⟩) now hs) else (2, hs)

theorem strict_eq : ∀ (a b : List Int), Strict a → Strict b → (∀ y, y ∈ a ↔ y ∈ b) → a = b
  | [], [], _, _, _ => rfl
  | [], y :: r, _, _, h => by have := (h y).2 (by simp); simp at this
  | x :: r, [], _, _, h => by have := (h x).1 (by simp); simp at this
  | x :: r, y :: s, ha, hb, h => by
    obtain ⟨ha1, ha2⟩ := List.pairwise_cons.1 ha
    obtain ⟨hb1, hb2⟩ := List.pairwise_cons.1 hb
    have hxy : x = y := by
      have h1 := (h x).1 (by simp)
      have h2 := (h y).2 (by simp)
      rcases List.mem_cons.1 h1 with e | h1
      · exact e
      · rcases List.mem_cons.1 h2 with e | h2
        · exact e.symm
        · have := ha1 y h2
          have := hb1 x h1
          omega
    subst hxy
    congr 1
    refine strict_eq r s ha2 hb2 fun y => ⟨fun hy => ?_, fun hy => ?_⟩
    · have h1 := (h y).1 (List.mem_cons_of_mem _ hy)
      rcases List.mem_cons.1 h1 with e | h1
      · have := ha1 y hy; omega
      · exact h1
    · have h1 := (h y).2 (List.mem_cons_of_mem _ hy)
      rcases List.mem_cons.1 h1 with e | h1
      · have := hb1 y hy; omega
      · exact h1

theorem sortI_le (xs : List Int) : (sortI xs).Pairwise (· ≤ ·) := by
  have h := List.pairwise_mergeSort (le := fun (x y : Int) => decide (x ≤ y)) (fun a b c h1 h2 => by simp at *; omega) (fun a b => by simp; omega) xs
  exact h.imp (fun h => by simpa using h)
theorem sortI_mem (xs : List Int) (y : Int) : y ∈ sortI xs ↔ y ∈ xs := List.mem_mergeSort
theorem sortI_nodup (xs : List Int) : (sortI xs).Nodup ↔ xs.Nodup := (List.mergeSort_perm _ _).nodup_iff

theorem compactUpTo_sub (zs : List Int) : ∀ m, m ≤ zs.length → (Lib.compactUpTo zs.toArray m).Sublist (zs.take m)
  | 0, _ => by simp [Lib.compactUpTo]
  | m + 1, h => by
    rw [Lib.compactUpTo_succ, List.take_succ_eq_append_getElem (by omega)]
    have ih := compactUpTo_sub zs m (by omega)
    have e : zs.toArray[m]! = zs[m] := by simp [getElem!_pos, show m < zs.length by omega]
    by_cases hk : Lib.keeps zs.toArray m = true
    · rw [if_pos hk, e]
      exact ih.append (List.Sublist.refl _)
    · rw [if_neg hk, List.append_nil]
      exact ih.trans (List.sublist_append_left _ _)
theorem compact_sub (zs : List Int) : (Lib.compact zs).Sublist zs := by
  have := compactUpTo_sub zs zs.length (Nat.le_refl _)
  rwa [List.take_length] at this

theorem nodup_compact (now : List Int) : now.Nodup ↔ ¬ (Lib.compact (sortI now)).length < now.length := by
  obtain ⟨h1, h2⟩ := compact_sorted (sortI now) (sortI_le now)
  have hl := sortI_length now
  constructor
  · intro hn
    have hs : Strict (sortI now) := by
      have hnd := (sortI_nodup now).2 hn
      have hle := sortI_le now
      unfold Strict
      exact (hle.and hnd).imp (fun {a b} ⟨x, y⟩ => by have : a ≠ b := y; omega)
    have e := strict_eq _ _ h1 hs h2
    rw [e, hl]
    omega
  · intro h
    have e : Lib.compact (sortI now) = sortI now := (compact_sub _).eq_of_length_le (by omega)
    rw [e] at h1
    exact (sortI_nodup now).1 (h1.imp (fun {a b} (h : a < b) => by show a ≠ b; omega))

theorem first_compact {now : List Int} {x : Int} {r : List Int} (h : Lib.compact (sortI now) = x :: r) : x < 1 ↔ ¬ ∀ y ∈ now, 1 ≤ y := by
  obtain ⟨h1, h2⟩ := compact_sorted (sortI now) (sortI_le now)
  rw [h] at h1 h2
  constructor
  · intro hx hall
    have := hall x ((sortI_mem _ _).1 ((h2 x).1 (by simp)))
    omega
  · intro hn
    rcases Int.lt_or_le x 1 with hx | hx
    · exact hx
    · exfalso
      apply hn
      intro y hy
      rcases List.mem_cons.1 ((h2 y).2 ((sortI_mem _ _).2 hy)) with e | hy'
      · omega
      · have := (List.pairwise_cons.1 h1).1 y hy'
        omega
theorem compact_ne {now : List Int} (h : now ≠ []) : ∃ x r, Lib.compact (sortI now) = x :: r := by
  obtain ⟨y, hy⟩ : ∃ y, y ∈ now := by cases now with | nil => exact absurd rfl h | cons y _ => exact ⟨y, by simp⟩
  have h2 := ((compact_sorted (sortI now) (sortI_le now)).2 y).2 ((sortI_mem _ _).2 hy)
  cases hc : Lib.compact (sortI now) with
  | nil => rw [hc] at h2; simp at h2
  | cons x r => exact ⟨x, r, rfl⟩

/-- The first k of the holds have other things. -/
def hsk (hs : List Hold) (now : List Int) : Nat → List Hold
  | 0 => hs
  | k + 1 => (hsk hs now k).set k ⟨now.getD k 0, ((hsk hs now k).getD k Hold.zero).who, ((hsk hs now k).getD k Hold.zero).n⟩
theorem hsk_length (hs : List Hold) (now : List Int) : ∀ k, (hsk hs now k).length = hs.length
  | 0 => rfl
  | k + 1 => by rw [hsk, List.length_set, hsk_length hs now k]
theorem hsk_eq (hs : List Hold) (now : List Int) (hl : now.length = hs.length) : ∀ k, k ≤ hs.length → hsk hs now k = List.zipWith (fun a h => (⟨a, h.who, h.n⟩ : Hold)) (now.take k) (hs.take k) ++ hs.drop k
  | 0, _ => by simp [hsk]
  | k + 1, hk => by
    have ih := hsk_eq hs now hl k (by omega)
    have hzl : (List.zipWith (fun a h => (⟨a, h.who, h.n⟩ : Hold)) (now.take k) (hs.take k)).length = k := by simp; omega
    have hg : (hsk hs now k).getD k Hold.zero = hs[k] := by
      rw [ih, List.getD_eq_getElem?_getD, List.getElem?_append_right (by omega), hzl, Nat.sub_self]
      simp [show k < hs.length by omega]
    rw [hsk, hg, ih, List.set_append_right _ _ (by omega), hzl, Nat.sub_self, List.drop_eq_getElem_cons (show k < hs.length by omega), List.set_cons_zero,
      List.take_succ_eq_append_getElem (show k < hs.length by omega), List.take_succ_eq_append_getElem (show k < now.length by omega), List.zipWith_append (by simp; omega)]
    simp [show k < now.length by omega]
theorem hsk_all (hs : List Hold) (now : List Int) (hl : now.length = hs.length) : hsk hs now hs.length = List.zipWith (fun a h => (⟨a, h.who, h.n⟩ : Hold)) now hs := by
  rw [hsk_eq hs now hl _ (Nat.le_refl _), List.drop_length, List.append_nil, List.take_length, ← hl, List.take_length]

theorem LockObj.box {W : World} {S : Nat → Prop} {b : Nat} {hs : List Hold} (h : LockObj W S b hs) : ∃ A cap, Boxed W b 48 (.slice A hs.length cap) := by
  obtain ⟨_, v, hv, hr⟩ := h
  obtain ⟨_, ⟨rfl, h0⟩ | ⟨g, cap, cur, rfl, _⟩⟩ := hr.open_
  · exact ⟨none, 0, by rw [h0]; exact hv⟩
  · exact ⟨_, cap, hv⟩

theorem LockObj.quiet_ {W w : World} {S : Nat → Prop} {b : Nat} {hs : List Hold} (h : LockObj w S b hs) : LockObj w (grow S W w) b hs := by
  obtain ⟨hb, v, h1, h2⟩ := h
  exact ⟨.inl hb, v, h1, h2.mono (fun k hk => .inl hk)⟩

/-- The first cell of a row that the call owns. -/
theorem own_first {W : World} {base n : Nat} {e : TypeId} {v : Value} {x : Int} {r : List Int} (h : W.ownsRow base e 1 v n (intV (x :: r))) : ∃ g cap, v = .slice (some ⟨g, 0, none⟩) n cap ∧ W.cell? ⟨g, 0, none⟩ = some (.int .i64 x) := by
  obtain ⟨h1, ⟨_, h2⟩ | ⟨g, cap, cur, rfl, hg, hh, hn, hm, hsz, hx⟩⟩ := h
  · rw [h2] at h1; simp [intV] at h1
  · refine ⟨g, cap, rfl, ?_⟩
    have h0 : 0 < n := by simp [intV] at h1; omega
    rw [(show Blk W g e cur from hh).cell, take_get hx 0 (by omega)]
    rfl

set_option maxRecDepth 100000 in
set_option maxHeartbeats 4000000 in
theorem put_any (W w0 : World) (S : Nat → Prop) (b : Nat) (hs : List Hold) (v : Value) (now : List Int) (h : LockObj W S b hs) (hreach : hs.length ≤ 1000000) (hnl : now.length ≤ 1000000)
    (hN : RSlice (Kint .i64) 1 w0 v now) (hw0 : Below w0.heap.size w0 W) (hS : ∀ k, S k → w0.heap.size ≤ k) (hSl : ∀ k, S k → k < W.heap.size) :
    Calls Try.prog 20 #[.pointer (some ⟨b, 0, none⟩), v] W fun e W' => e = .returned (.int .i64 (putL hs now).1) ∧ LockObj W' (grow S W W') b (putL hs now).2 ∧ Touch S W W' := by
  obtain ⟨A0, c0, rfl⟩ := ints_slice hN
  have HSort := Lib.hid (sorted_any w0 _ now hnl hN W.heap.size (W.alloc (.cells #[.slice A0 now.length c0] 25)) (hw0.alloc hw0.size _) (by simp) (by have := (Boxed.new W 25 (.slice A0 now.length c0)).cell; exact this))
  have HN := Lib.hid hN
  clear hN
  have HW0 := Lib.hid hw0
  clear hw0
  have hbW : Below W.heap.size W (W.alloc (.cells #[.slice A0 now.length c0] 25)) := (Below.refl _ W).alloc (Nat.le_refl _) _
  by_cases hlen : now.length = hs.length
  · have hneb : ((now.length : Int) != (hs.length : Int)) = false := by simp [hlen]
    have HLE := Lib.hid hlen
    clear hlen
    by_cases hcl : (Lib.compact (sortI now)).length < now.length
    · have e1 : putL hs now = (2, hs) := by
        rw [putL, if_neg]
        intro ⟨_, h2, _⟩
        exact (nodup_compact now).1 h2 hcl
      rw [e1]
      clear e1
      have hclb : decide ((Lib.compact (sortI now)).length < now.length) = true := decide_eq_true hcl
      clear hcl
      go_enter Try.func20, Try.ntmps20
      go_wp2_with (first
        | (go_at_call 32; refine (vals_any _ _ _ _).mono ?_; rintro e w1 ⟨rfl, rfl⟩)
        | (go_at_call 31; refine HSort.out.mono ?_; rintro e w2 ⟨v2, rfl, ho, hb⟩; have HBs := Lib.hid hb.size; have hbB := hbW.trans (hb.mono (by simp)); obtain ⟨A1, c1, hv⟩ := (h.below hbB).box; have hc := hv.cell; have HB := Lib.hid hbB; have HO := Lib.hid ho; clear ho hb hbB)
        | (go_at_call 33; refine (compact_row w2 _ v2 (sortI now) (by rw [sortI_length]; exact HO.out) (by rw [sortI_length]; exact hnl) HBs.out).mono ?_; rintro e w3 ⟨a3, c3, rfl, ho3, hb3⟩; rw [sortI_length] at ho3; have hb3' : Below W.heap.size W w3 := HB.out.trans (hb3.mono (by simp)); obtain ⟨A3, c3, hv3⟩ := (h.below hb3').box; have hc3 := hv3.cell; have HX3 := Lib.hid hb3'; have HO3 := Lib.hid ho3; clear ho3 hb3 hb3'))
      go_ret
      exact ⟨rfl, LockObj.quiet_ (h.below HX3.out), Touch.of_below HX3.out⟩
    · have HCL := Lib.hid hcl
      have hclb : decide ((Lib.compact (sortI now)).length < now.length) = false := decide_eq_false hcl
      clear hcl
      by_cases h0 : now = []
      · have e1 : putL hs now = (0, hs) := by
          subst h0
          have : hs = [] := List.eq_nil_of_length_eq_zero (by have := HLE.out; simpa using this.symm)
          subst this
          rfl
        rw [e1]
        clear e1
        have hpos : (now.length : Int) ≤ 0 := by rw [h0]; simp
        clear h0
        go_enter Try.func20, Try.ntmps20
        go_wp2_with (first
        | (go_at_call 32; refine (vals_any _ _ _ _).mono ?_; rintro e w1 ⟨rfl, rfl⟩)
        | (go_at_call 31; refine HSort.out.mono ?_; rintro e w2 ⟨v2, rfl, ho, hb⟩; have HBs := Lib.hid hb.size; have hbB := hbW.trans (hb.mono (by simp)); obtain ⟨A1, c1, hv⟩ := (h.below hbB).box; have hc := hv.cell; have HB := Lib.hid hbB; have HO := Lib.hid ho; clear ho hb hbB)
        | (go_at_call 33; refine (compact_row w2 _ v2 (sortI now) (by rw [sortI_length]; exact HO.out) (by rw [sortI_length]; exact hnl) HBs.out).mono ?_; rintro e w3 ⟨a3, c3, rfl, ho3, hb3⟩; rw [sortI_length] at ho3; have hb3' : Below W.heap.size W w3 := HB.out.trans (hb3.mono (by simp)); obtain ⟨A3, c3, hv3⟩ := (h.below hb3').box; have hc3 := hv3.cell; have HX3 := Lib.hid hb3'; have HO3 := Lib.hid ho3; clear ho3 hb3 hb3'))
        go_loopw [42] (fun i wr => i = .int .i64 0 ∧ wr = w3) (fun _ _ => 0)
        case atStart => exact ⟨rfl, rfl⟩
        case round =>
          obtain ⟨rfl, rfl⟩ := hrel
          go_wp2
          go_ret
          exact ⟨rfl, LockObj.quiet_ (h.below HX3.out), Touch.of_below HX3.out⟩
      · obtain ⟨x, r, hxr⟩ := compact_ne h0
        have hpos : (0 : Int) < (now.length : Int) := by cases now with | nil => exact absurd rfl h0 | cons y s => simp
        have hF : ∀ (W3 : World) (base n : Nat) (v2 : Value), W3.ownsRow base 2 1 v2 n (intV (Lib.compact (sortI now) ++ List.replicate (now.length - (Lib.compact (sortI now)).length) 0)) → ∃ g cap, v2 = .slice (some ⟨g, 0, none⟩) n cap ∧ W3.cell? ⟨g, 0, none⟩ = some (.int .i64 x) := fun W3 base n v2 h => by
          rw [hxr] at h
          exact own_first h
        have HF := Lib.hid hF
        clear hF
        have HFC := Lib.hid (first_compact hxr)
        clear hxr h0
        by_cases hx : x < 1
        · have e1 : putL hs now = (2, hs) := by
            rw [putL, if_neg]
            intro ⟨_, _, h3⟩
            exact HFC.out.1 hx h3
          rw [e1]
          clear e1
          have hxb : decide (x < 1) = true := decide_eq_true hx
          go_enter Try.func20, Try.ntmps20
          go_wp2_with (first
        | (go_at_call 32; refine (vals_any _ _ _ _).mono ?_; rintro e w1 ⟨rfl, rfl⟩)
        | (go_at_call 31; refine HSort.out.mono ?_; rintro e w2 ⟨v2, rfl, ho, hb⟩; have HBs := Lib.hid hb.size; have hbB := hbW.trans (hb.mono (by simp)); obtain ⟨A1, c1, hv⟩ := (h.below hbB).box; have hc := hv.cell; have HB := Lib.hid hbB; have HO := Lib.hid ho; clear ho hb hbB)
        | (go_at_call 33; refine (compact_row w2 _ v2 (sortI now) (by rw [sortI_length]; exact HO.out) (by rw [sortI_length]; exact hnl) HBs.out).mono ?_; rintro e w3 ⟨a3, c3, rfl, ho3, hb3⟩; rw [sortI_length] at ho3; have hb3' : Below W.heap.size W w3 := HB.out.trans (hb3.mono (by simp)); obtain ⟨A3, c3, hv3⟩ := (h.below hb3').box; have hc3 := hv3.cell; have HX3 := Lib.hid hb3'; have HO3 := Lib.hid ho3; clear ho3 hb3 hb3'; obtain ⟨g2, cp2, rfl, hcx⟩ := HF.out _ _ _ _ HO3.out))
          go_ret
          exact ⟨rfl, LockObj.quiet_ (h.below HX3.out), Touch.of_below HX3.out⟩
        · have e1 : putL hs now = (0, List.zipWith (fun a h => (⟨a, h.who, h.n⟩ : Hold)) now hs) := by
            rw [putL, if_pos]
            refine ⟨HLE.out, (nodup_compact now).2 HCL.out, ?_⟩
            exact Classical.not_not.1 (fun hn => hx (HFC.out.2 hn))
          rw [e1, ← hsk_all hs now HLE.out]
          clear e1
          have hxb : decide (x < 1) = false := decide_eq_false hx
          clear hx
          go_enter Try.func20, Try.ntmps20
          go_wp2_with (first
        | (go_at_call 32; refine (vals_any _ _ _ _).mono ?_; rintro e w1 ⟨rfl, rfl⟩)
        | (go_at_call 31; refine HSort.out.mono ?_; rintro e w2 ⟨v2, rfl, ho, hb⟩; have HBs := Lib.hid hb.size; have hbB := hbW.trans (hb.mono (by simp)); obtain ⟨A1, c1, hv⟩ := (h.below hbB).box; have hc := hv.cell; have HB := Lib.hid hbB; have HO := Lib.hid ho; clear ho hb hbB)
        | (go_at_call 33; refine (compact_row w2 _ v2 (sortI now) (by rw [sortI_length]; exact HO.out) (by rw [sortI_length]; exact hnl) HBs.out).mono ?_; rintro e w3 ⟨a3, c3, rfl, ho3, hb3⟩; rw [sortI_length] at ho3; have hb3' : Below W.heap.size W w3 := HB.out.trans (hb3.mono (by simp)); obtain ⟨hbS, vB, hvB, hr⟩ := h.below hb3'; obtain ⟨_, ⟨rfl, hl0⟩ | ⟨g, cap, cur, rfl, hgS, hB, hn, hm, hsz, hx⟩⟩ := hr.open_; (exact absurd hpos (by have := HLE.out; omega)); have HBB := Lib.hid (And.intro hB (And.intro hsz (And.intro hx (And.intro hvB (And.intro hgS hbS))))); clear hB hsz hx hvB hr hgS hbS; have HX3 := Lib.hid hb3'; have HO3 := Lib.hid ho3; clear ho3 hb3 hb3'; obtain ⟨g2, cp2, rfl, hcx⟩ := HF.out _ _ _ _ HO3.out))
          clear hv hc hcx
          go_loopw [42] (fun i wr => ∃ k : Nat, k ≤ now.length ∧ i = .int .i64 k ∧ ∃ cur', Hid (Blk wr g 51 cur' ∧ cur'.size = cap * 3 ∧ cur'.toList.take (hs.length * 3) = cellsH (hsk hs now k) ∧ Boxed wr b 48 (.slice (some ⟨g, 0, none⟩) hs.length cap) ∧ Touch S W wr)) (fun i _ => now.length - (intOf i).toNat)
          case atStart => exact ⟨0, by omega, rfl, cur, HBB.out.1, HBB.out.2.1, HBB.out.2.2.1, HBB.out.2.2.2.1, Touch.of_below HX3.out⟩
          case round =>
            obtain ⟨k, hk, rfl, cur', hI⟩ := hrel
            by_cases hlt : k < now.length
            · have hlk : k < hs.length := by have := HLE.out; omega
              obtain ⟨A2, c2, e2, hca⟩ := ints_at (HW0.out.trans (hI.out.2.2.2.2.below HW0.out.size hS)) HN.out hlt
              obtain ⟨rfl, -, rfl⟩ := Value.slice.inj e2
              clear e2
              have hcb := hI.out.2.2.2.1.cell
              have hcg : wr.cell? ⟨g, k * 3, none⟩ = some (.int .i64 ((hsk hs now k).getD k Hold.zero).a) := by
                rw [hI.out.1.cell, take_get hI.out.2.2.1 _ (by omega), show k * 3 = k * 3 + 0 by omega, cellsH_get _ k 0 (by rw [hsk_length]; exact hlk) (by omega)]
                rfl
              have hfg := hI.out.1.frozen (k * 3)
              have hkl : (k : Int) < (now.length : Int) := by omega
              have hkl2 : (k : Int) < (hs.length : Int) := by omega
              have hk0 : (0 : Int) ≤ (k : Int) := by omega
              obtain ⟨y, hy⟩ : ∃ y, y = now.getD k 0 := ⟨_, rfl⟩
              rw [← hy] at hca
              have HY := Lib.hid hy
              clear hy
              obtain ⟨z, hz⟩ : ∃ z, z = ((hsk hs now k).getD k Hold.zero).a := ⟨_, rfl⟩
              rw [← hz] at hcg
              clear hz
              go_wp2
              go_roundw
              case rel =>
                refine ⟨k + 1, by omega, by go_num, _, hI.out.1.set (k * 3) _, ?_, ?_, Blk.other (cs := #[_]) hI.out.2.2.2.1 (hI.out.1.ne hI.out.2.2.2.1 (by decide)).symm _ _, hI.out.2.2.2.2.setCell (.inl HBB.out.2.2.2.2.1) _⟩
                · rw [Array.size_setIfInBounds]; exact hI.out.2.1
                · rw [Array.toList_setIfInBounds, List.take_set, hI.out.2.2.1, hsk, cellsH_set1 (hsk hs now k) k 0 _ (.int .i64 y) (by rw [hsk_length]; exact hlk) (by rw [HY.out]; rfl) (by omega)]
                  rfl
              case measure => simp [intOf]; omega
            · have hkb : decide (k < now.length) = false := by simp; omega
              have hke : k = hs.length := by have := HLE.out; omega
              have HKE := Lib.hid hke
              clear hke hlt
              go_wp2
              go_ret
              have hcx := hI.out.2.2.1
              rw [HKE.out] at hcx
              refine ⟨rfl, ⟨.inl h.1, _, hI.out.2.2.2.1, ?_⟩, hI.out.2.2.2.2⟩
              have hL := hsk_length hs now hs.length
              rw [show (hsk hs now hs.length).length = hs.length from hL]
              exact RowAt.mk_ (.inl HBB.out.2.2.2.2.1) hI.out.1 hn hm hI.out.2.1 hcx (by rw [cellsH_length, hL])
  · have hneb : ((now.length : Int) != (hs.length : Int)) = true := by simp; omega
    have e1 : putL hs now = (2, hs) := by
      rw [putL, if_neg]
      intro ⟨h1, _⟩
      exact hlen h1
    rw [e1]
    clear e1 hlen
    go_enter Try.func20, Try.ntmps20
    go_wp2_with (first
      | (go_at_call 32; refine (vals_any _ _ _ _).mono ?_; rintro e w1 ⟨rfl, rfl⟩)
      | (go_at_call 31; refine HSort.out.mono ?_; rintro e w2 ⟨v2, rfl, ho, hb⟩; have hbB := hbW.trans (hb.mono (by simp)); obtain ⟨A1, c1, hv⟩ := (h.below hbB).box; have hc := hv.cell; have HB := Lib.hid hbB; have HO := Lib.hid ho; have HBs := Lib.hid hb.size; clear ho hb hbB))
    go_ret
    exact ⟨rfl, LockObj.quiet_ (h.below HB.out), Touch.of_below HB.out⟩
end Go.Proofs.Ytmlcififmjpcpaa
