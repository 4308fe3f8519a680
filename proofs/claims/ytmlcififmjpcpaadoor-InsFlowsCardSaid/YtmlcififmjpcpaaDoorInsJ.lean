/-
  The document's bytes: 'Lent', 'Put' of a number.
-/
import Derived.Test.YtmlcififmjpcpaaDoorInsI
namespace Go.Proofs.YtmlcififmjpcpaaDoor
open Go.RowKit
set_option linter.unusedVariables false
set_option linter.unusedSimpArgs false

attribute [local go_sem] Oper.semAt_some

/-- 'append(nil, b...)' -/
theorem append_lent (w : World) (ty : TypeId) (v : Value) (xs : List UInt8) (n : Nat) (hv : BytesIn n w v xs) (hl : xs.length ≤ 200000000000000) :
    ∃ v' w', (Builtin.append_ #[33, 33] ty #[.slice none 0 0, v]).run Tryd.prog w = .ok v' w' ∧ w'.ownsRow w.heap.size 5 1 v' xs.length (bcells xs) ∧ Below w.heap.size w w' := by
  obtain ⟨i, hi, hz, hs, hby⟩ := zero8
  obtain ⟨_, ao, cap, rfl, h1, h2, h3, h4⟩ := hv
  by_cases h0 : xs.length = 0
  · have : xs = [] := List.eq_nil_of_length_eq_zero h0
    subst this
    refine ⟨.slice none 0 0, w, ?_, own_nil _ _ _ _, Below.refl _ _⟩
    cases ao <;> simp [Builtin.append_, run_underlying Tryd.underlying33, sizeOf, typeInfo, hi, Builtin.lenOf, Builtin.firstCells, loadCells, loadCellsFrom]
  · cases ao with
    | none => exact absurd (h3 rfl).1 h0
    | some b =>
      have hr := append_clipped w ty none [] xs (fun _ => rfl) (fun b e => by cases e) b cap (by omega) (h4 b rfl).2 (by simp; omega)
      obtain ⟨v', w', hr1, hr2, hr3⟩ := hr
      exact ⟨v', w', hr1, hr2, (Below.refl _ _).grown hr3 (Nat.le_refl _) (fun k e => by cases e)⟩

set_option maxRecDepth 100000 in
theorem lent_any (W : World) (v : Value) (xs : List UInt8) (n : Nat) (hv : BytesIn n W v xs) (hl : xs.length ≤ 200000000000000) :
    Calls Tryd.prog 16 #[v] W fun e W' => ∃ v', e = .returned v' ∧ BytesIn W'.heap.size W' v' xs ∧ Below W.heap.size W W' := by
  obtain ⟨ao, cap, rfl, hcap, hm, hao⟩ := SliceIn.form hv
  have hr := append_lent W 33 _ xs n hv hl
  have HR := Lib.hid hr
  clear hr hv
  go_enter Tryd.func16, Tryd.ntmps16
  go_wp2_with (at_builtin; go_loud (refine wpList_append_run' rfl _ _ 33 33 rfl _ _ rfl rfl HR.out ?_); intro v' w9 hh; have HO := Lib.hid hh; clear hh; obtain ⟨ao9, cap9, rfl⟩ := own_form HO.out.1)
  go_ret
  exact ⟨_, rfl, SliceIn.of_own HO.out.1, HO.out.2⟩

theorem run_append_own_at' {P : Program} (w : World) (base : Nat) (t ty e : TypeId) (i : TypeInfo) (z : Value) (size bytes : Nat) (ht : P.underlying t = some (.slice e)) (hi : P.info? e = some i) (hz : i.zero = some z)
    (hsize : i.size = size) (hby : i.bytes = bytes) (hzs : z.cells.size = size) (hsz : 0 < size) (v : Value) (n : Nat) (xs : List Value) (hown : w.ownsRow base e size v n xs)
    (a : Addr) (m c : Nat) (news : List Value) (hl : news.length = m * size) (hnews : ∀ j u, news[j]? = some u → w.cell? (a.add j) = some u) (h1 : ∀ u ∈ news, u.oneCell' = true)
    (h63 : n + m ≤ maxLen) (hbytes : ((n + m) + (n + m) / 4 + 192) * bytes ≤ 281474976710656) (hbase : base ≤ w.heap.size) :
    ∃ v' w', (Builtin.append_ #[t, t] ty #[v, .slice (some a) m c]).run P w = .ok v' w' ∧ (w'.ownsRow base e size v' (n + m) (xs ++ news) ∧ w.grownBy w' v.ownBlock) := by
  obtain ⟨v', w', h1, h2, h3, _⟩ := run_append_own_wide (P := P) w base t ty e i z size bytes ht hi hz hsize hby hzs hsz v n xs hown a m c news hl hnews h1 h63 hbytes hbase
  exact ⟨v', w', h1, h2, h3⟩

set_option maxRecDepth 100000 in
set_option maxHeartbeats 2000000 in
theorem rput_any (W : World) (v : Value) (xs : List UInt8) (x : Int) (n : Nat) (hv : BytesIn n W v xs) (hl : xs.length ≤ 190000000000000) (h0 : -9223372036854775808 ≤ x) (h1 : x ≤ 9223372036854775807) :
    Calls Tryd.prog 36 #[v, .int .i64 x] W fun e W' => ∃ v', e = .returned v' ∧ BytesIn W'.heap.size W' v' (xs ++ vput (zz x)) ∧ Below W.heap.size W W' := by
  obtain ⟨ao, cap, rfl, hcap, hm, hao⟩ := SliceIn.form hv
  have hr := append_lent W 33 _ xs n hv (by omega)
  have HR := Lib.hid hr
  clear hr hv
  by_cases hx : x < 0
  · have hb : decide (x < 0) = true := decide_eq_true hx
    go_enter Tryd.func36, Tryd.ntmps36
    go_wp2_with (at_builtin; go_loud (refine wpList_append_run' rfl _ _ 33 33 rfl _ _ rfl rfl HR.out ?_); intro v' w9 hh; have HO := Lib.hid hh; clear hh; obtain ⟨ao9, cap9, rfl⟩ := own_form HO.out.1)
    go_loopw [5, 6] (fun s5 s6 wr => ∃ (u : Nat) (pre : List UInt8), s6 = .int .u64 (u : Int) ∧ Hid (wr.ownsRow W.heap.size 5 1 s5 (xs ++ pre).length (bcells (xs ++ pre))) ∧ Hid (vput (zz x) = pre ++ vput u) ∧ u < 18446744073709551616 ∧ Hid (u * 128 ^ pre.length < 18446744073709551616) ∧ pre.length ≤ 9 ∧ Hid (Below W.heap.size W wr)) (fun _ s6 _ => (intOf s6).toNat)
    case atStart =>
      refine ⟨zz x, [], by rw [zz, if_neg (by omega)]; congr 1; omega, Lib.hid (by rw [List.append_nil]; exact HO.out.1), Lib.hid (by simp), zz_lt x h0 h1, Lib.hid (by simpa using zz_lt x h0 h1), by simp, Lib.hid HO.out.2⟩
    case round =>
      obtain ⟨u, pre, rfl, hown, hsaid, hlt, hsm, hpl, hb'⟩ := hrel
      obtain ⟨ao2, cap2, rfl⟩ := own_form hown.out
      have hsz := hb'.out.size
      obtain ⟨i0, hi0, hz0, hs0, hby0⟩ := zero8
      obtain ⟨L, hL⟩ : ∃ L, L = (xs ++ pre).length := ⟨_, rfl⟩
      have hLle : L ≤ 190000000000009 := by rw [hL, List.length_append]; omega
      rw [← hL] at hown
      rw [← hL]
      have hL' := Lib.hid hL
      clear hL
      by_cases hu : u < 128
      · have hub : decide (128 ≤ (u : Int)) = false := decide_eq_false (by omega)
        go_wp2_with (at_builtin; go_loud (refine wpList_append_run' rfl _ _ 33 33 rfl _ _ rfl rfl (run_append_own_at' _ W.heap.size 33 _ 5 i0 (.int .u8 0) 1 1 Tryd.underlying33 hi0 hz0 hs0 hby0 rfl (by decide) _ L _ (hown.out.alloc _) ⟨_, 0, none⟩ 1 1 [_] rfl (news_at' _ _ [_] _ (by simp)) (by simp [Value.oneCell']) (by unfold maxLen; omega) (by omega) (by simp; omega)) ?_); intro v' w9 hh; have HO9 := Lib.hid hh.1; have HB9 := Lib.hid (below_append hown.out hb'.out hb'.out.size hh.2); clear hh; obtain ⟨ao9, cap9, rfl⟩ := own_form HO9.out)
        go_ret
        refine ⟨_, rfl, ?_, HB9.out⟩
        have e := HO9.out
        have e2 : bcells (xs ++ pre) ++ [Value.int .u8 (u : Int)] = bcells (xs ++ vput (zz x)) := by
          rw [hsaid.out, vput_lt hu, ← List.append_assoc, bcells_append (xs ++ pre)]
          congr 1
          simp only [bcells, List.map_cons, List.map_nil]
          rw [ofNat_toNat (by omega)]
        have e3 : L + 1 = (xs ++ vput (zz x)).length := by rw [hsaid.out, vput_lt hu, ← List.append_assoc, List.length_append, ← hL'.out]; rfl
        rw [e2, e3] at e
        rw [e3]
        exact SliceIn.of_own e
      · have hub : decide (128 ≤ (u : Int)) = true := decide_eq_true (by omega)
        go_wp2_with (at_builtin; go_loud (refine wpList_append_run' rfl _ _ 33 33 rfl _ _ rfl rfl (run_append_own_at' _ W.heap.size 33 _ 5 i0 (.int .u8 0) 1 1 Tryd.underlying33 hi0 hz0 hs0 hby0 rfl (by decide) _ L _ (hown.out.alloc _) ⟨_, 0, none⟩ 1 1 [_] rfl (news_at' _ _ [_] _ (by simp)) (by simp [Value.oneCell']) (by unfold maxLen; omega) (by omega) (by simp; omega)) ?_); intro v' w9 hh; have HO9 := Lib.hid hh.1; have HB9 := Lib.hid (below_append hown.out hb'.out hb'.out.size hh.2); clear hh; obtain ⟨ao9, cap9, rfl⟩ := own_form HO9.out)
        go_roundw
        case rel =>
          refine ⟨u / 128, pre ++ [UInt8.ofNat (u % 128 + 128)], by simp, Lib.hid ?_, Lib.hid (by rw [hsaid.out, vput_ge hu]; simp), by omega, Lib.hid ?_, ?_, HB9⟩
          · have e := HO9.out
            have e2 : bcells (xs ++ pre) ++ [Value.int .u8 ((u : Int) % 128 + 128)] = bcells (xs ++ (pre ++ [UInt8.ofNat (u % 128 + 128)])) := by
              rw [← List.append_assoc, bcells_append (xs ++ pre)]
              congr 1
              simp only [bcells, List.map_cons, List.map_nil]
              rw [ofNat_toNat (by omega)]
              rfl
            have e3 : L + 1 = (xs ++ (pre ++ [UInt8.ofNat (u % 128 + 128)])).length := by rw [← List.append_assoc, List.length_append, ← hL'.out]; rfl
            rw [e2, e3] at e
            rw [e3] 
            exact e
          · rw [List.length_append, List.length_singleton, Nat.pow_succ, Nat.mul_comm _ 128, ← Nat.mul_assoc]
            exact Nat.lt_of_le_of_lt (Nat.mul_le_mul_right _ (Nat.div_mul_le_self u 128)) hsm.out
          · exact short_of (v := u / 128) (by omega) (by
              rw [List.length_append, List.length_singleton, Nat.pow_succ, Nat.mul_comm _ 128, ← Nat.mul_assoc]
              exact Nat.lt_of_le_of_lt (Nat.mul_le_mul_right _ (Nat.div_mul_le_self u 128)) hsm.out)
        case measure => simp [intOf]; omega
  · have hb : decide (x < 0) = false := decide_eq_false hx
    go_enter Tryd.func36, Tryd.ntmps36
    go_wp2_with (at_builtin; go_loud (refine wpList_append_run' rfl _ _ 33 33 rfl _ _ rfl rfl HR.out ?_); intro v' w9 hh; have HO := Lib.hid hh; clear hh; obtain ⟨ao9, cap9, rfl⟩ := own_form HO.out.1)
    go_loopw [5, 6] (fun s5 s6 wr => ∃ (u : Nat) (pre : List UInt8), s6 = .int .u64 (u : Int) ∧ Hid (wr.ownsRow W.heap.size 5 1 s5 (xs ++ pre).length (bcells (xs ++ pre))) ∧ Hid (vput (zz x) = pre ++ vput u) ∧ u < 18446744073709551616 ∧ Hid (u * 128 ^ pre.length < 18446744073709551616) ∧ pre.length ≤ 9 ∧ Hid (Below W.heap.size W wr)) (fun _ s6 _ => (intOf s6).toNat)
    case atStart =>
      refine ⟨zz x, [], by rw [zz, if_pos (by omega)]; congr 1; omega, Lib.hid (by rw [List.append_nil]; exact HO.out.1), Lib.hid (by simp), zz_lt x h0 h1, Lib.hid (by simpa using zz_lt x h0 h1), by simp, Lib.hid HO.out.2⟩
    case round =>
      obtain ⟨u, pre, rfl, hown, hsaid, hlt, hsm, hpl, hb'⟩ := hrel
      obtain ⟨ao2, cap2, rfl⟩ := own_form hown.out
      have hsz := hb'.out.size
      obtain ⟨i0, hi0, hz0, hs0, hby0⟩ := zero8
      obtain ⟨L, hL⟩ : ∃ L, L = (xs ++ pre).length := ⟨_, rfl⟩
      have hLle : L ≤ 190000000000009 := by rw [hL, List.length_append]; omega
      rw [← hL] at hown
      rw [← hL]
      have hL' := Lib.hid hL
      clear hL
      by_cases hu : u < 128
      · have hub : decide (128 ≤ (u : Int)) = false := decide_eq_false (by omega)
        go_wp2_with (at_builtin; go_loud (refine wpList_append_run' rfl _ _ 33 33 rfl _ _ rfl rfl (run_append_own_at' _ W.heap.size 33 _ 5 i0 (.int .u8 0) 1 1 Tryd.underlying33 hi0 hz0 hs0 hby0 rfl (by decide) _ L _ (hown.out.alloc _) ⟨_, 0, none⟩ 1 1 [_] rfl (news_at' _ _ [_] _ (by simp)) (by simp [Value.oneCell']) (by unfold maxLen; omega) (by omega) (by simp; omega)) ?_); intro v' w9 hh; have HO9 := Lib.hid hh.1; have HB9 := Lib.hid (below_append hown.out hb'.out hb'.out.size hh.2); clear hh; obtain ⟨ao9, cap9, rfl⟩ := own_form HO9.out)
        go_ret
        refine ⟨_, rfl, ?_, HB9.out⟩
        have e := HO9.out
        have e2 : bcells (xs ++ pre) ++ [Value.int .u8 (u : Int)] = bcells (xs ++ vput (zz x)) := by
          rw [hsaid.out, vput_lt hu, ← List.append_assoc, bcells_append (xs ++ pre)]
          congr 1
          simp only [bcells, List.map_cons, List.map_nil]
          rw [ofNat_toNat (by omega)]
        have e3 : L + 1 = (xs ++ vput (zz x)).length := by rw [hsaid.out, vput_lt hu, ← List.append_assoc, List.length_append, ← hL'.out]; rfl
        rw [e2, e3] at e
        rw [e3]
        exact SliceIn.of_own e
      · have hub : decide (128 ≤ (u : Int)) = true := decide_eq_true (by omega)
        go_wp2_with (at_builtin; go_loud (refine wpList_append_run' rfl _ _ 33 33 rfl _ _ rfl rfl (run_append_own_at' _ W.heap.size 33 _ 5 i0 (.int .u8 0) 1 1 Tryd.underlying33 hi0 hz0 hs0 hby0 rfl (by decide) _ L _ (hown.out.alloc _) ⟨_, 0, none⟩ 1 1 [_] rfl (news_at' _ _ [_] _ (by simp)) (by simp [Value.oneCell']) (by unfold maxLen; omega) (by omega) (by simp; omega)) ?_); intro v' w9 hh; have HO9 := Lib.hid hh.1; have HB9 := Lib.hid (below_append hown.out hb'.out hb'.out.size hh.2); clear hh; obtain ⟨ao9, cap9, rfl⟩ := own_form HO9.out)
        go_roundw
        case rel =>
          refine ⟨u / 128, pre ++ [UInt8.ofNat (u % 128 + 128)], by simp, Lib.hid ?_, Lib.hid (by rw [hsaid.out, vput_ge hu]; simp), by omega, Lib.hid ?_, ?_, HB9⟩
          · have e := HO9.out
            have e2 : bcells (xs ++ pre) ++ [Value.int .u8 ((u : Int) % 128 + 128)] = bcells (xs ++ (pre ++ [UInt8.ofNat (u % 128 + 128)])) := by
              rw [← List.append_assoc, bcells_append (xs ++ pre)]
              congr 1
              simp only [bcells, List.map_cons, List.map_nil]
              rw [ofNat_toNat (by omega)]
              rfl
            have e3 : L + 1 = (xs ++ (pre ++ [UInt8.ofNat (u % 128 + 128)])).length := by rw [← List.append_assoc, List.length_append, ← hL'.out]; rfl
            rw [e2, e3] at e
            rw [e3] 
            exact e
          · rw [List.length_append, List.length_singleton, Nat.pow_succ, Nat.mul_comm _ 128, ← Nat.mul_assoc]
            exact Nat.lt_of_le_of_lt (Nat.mul_le_mul_right _ (Nat.div_mul_le_self u 128)) hsm.out
          · exact short_of (v := u / 128) (by omega) (by
              rw [List.length_append, List.length_singleton, Nat.pow_succ, Nat.mul_comm _ 128, ← Nat.mul_assoc]
              exact Nat.lt_of_le_of_lt (Nat.mul_le_mul_right _ (Nat.div_mul_le_self u 128)) hsm.out)
        case measure => simp [intOf]; omega
end Go.Proofs.YtmlcififmjpcpaaDoor
