/-
  The document's locks: 'Put'.
-/
import Derived.Test.YtmlcififmjpcpaaRefC
import Derived.Deep.RegionLaw
import Derived.Deep.RegionHeldLaw
import Derived.Deep.RegionLawGrows
import Derived.Deep.DeepAppendWide
namespace Go.Proofs.Ytmlcififmjpcpaa
open Go.RowKit
set_option linter.unusedVariables false

/-- An append as one step of a region that draws: by whatever is known of its run. -/
theorem step_append_run {P : Program} {ops : Array Oper} {o : Oper} {a : Act} {w : World} {K : Act → World → Prop} {Q : Exit → Act → World → Prop} {E : Prop} {R : Value → World → Prop}
    (hg : o.guard = none) (s x : Operand) (t t2 : TypeId) (hop : o.op = Op.call { callee := Callee.builtin Builtin.append, args := #[s, x], argTypes := #[t, t2] })
    (va vx : Value) (hs : a.eval s = va) (hx : a.eval x = vx) (hrun : ∃ v' w', (Builtin.append_ #[t, t2] o.type #[va, vx]).run P w = .ok v' w' ∧ R v' w') (hK : ∀ v' w', R v' w' → K (a.put o.dst v') w') :
    if Region.wanted o (yielded ops a.tmps) = true then Oper.wp P o a w K Q else E := by
  have hw : Region.wanted o (yielded ops a.tmps) = true := by simp [Region.wanted, hg]
  rw [if_pos hw]
  obtain ⟨v', w', hr, hR⟩ := hrun
  unfold Oper.wp
  simp [execOp, hop, resolve, invoke, builtin, hs, hx, hr, Result.andThen]
  exact hK v' w' hR
theorem run_append_own_at' {P : Program} (w : World) (base : Nat) (t ty e : TypeId) (i : TypeInfo) (z : Value) (size bytes : Nat) (ht : P.underlying t = some (.slice e)) (hi : P.info? e = some i) (hz : i.zero = some z)
    (hsize : i.size = size) (hby : i.bytes = bytes) (hzs : z.cells.size = size) (hsz : 0 < size) (v : Value) (n : Nat) (xs : List Value) (hown : w.ownsRow base e size v n xs)
    (a : Addr) (m c : Nat) (news : List Value) (hl : news.length = m * size) (hnews : ∀ j u, news[j]? = some u → w.cell? (a.add j) = some u) (h1 : ∀ u ∈ news, u.oneCell' = true)
    (h63 : n + m ≤ maxLen) (hbytes : ((n + m) + (n + m) / 4 + 192) * bytes ≤ 281474976710656) (hbase : base ≤ w.heap.size) :
    ∃ v' w', (Builtin.append_ #[t, t] ty #[v, .slice (some a) m c]).run P w = .ok v' w' ∧ (w'.ownsRow base e size v' (n + m) (xs ++ news) ∧ w.grownBy w' v.ownBlock) := by
  obtain ⟨v', w', h1, h2, h3, _⟩ := run_append_own_wide (P := P) w base t ty e i z size bytes ht hi hz hsize hby hzs hsz v n xs hown a m c news hl hnews h1 h63 hbytes hbase
  exact ⟨v', w', h1, h2, h3⟩


theorem putOk_of {hs : List Hold} {now : List Int} (hl : now.length = hs.length) (h : ∀ j, j < now.length → 1 ≤ now.getD j 0 ∧ ∀ k, k < j → now.getD k 0 ≠ now.getD j 0) : putOk hs now := by
  refine ⟨hl, ?_, ?_⟩
  · refine List.pairwise_iff_getElem.2 fun i j hi hj hij => ?_
    have := (h j hj).2 i hij
    simpa [hi, hj] using this
  · intro x hx
    obtain ⟨j, hj, rfl⟩ := List.mem_iff_getElem.1 hx
    have := (h j hj).1
    simpa [hj] using this
theorem put_low {hs : List Hold} {now : List Int} {j : Nat} (hj : j < now.length) (h : now.getD j 0 < 1) : putL hs now = (2, hs) := by
  rw [putL, if_neg]
  intro ⟨_, _, h3⟩
  have := h3 now[j] (List.getElem_mem hj)
  simp [hj] at h
  omega
theorem put_twice {hs : List Hold} {now : List Int} {k j : Nat} (hj : j < now.length) (hk : k < j) (h : now.getD k 0 = now.getD j 0) : putL hs now = (2, hs) := by
  rw [putL, if_neg]
  intro ⟨_, h2, _⟩
  have := List.pairwise_iff_getElem.1 h2 k j (by omega) hj hk
  simp [hj, show k < now.length by omega] at h
  exact this h
def zipL (hs : List Hold) (now : List Int) (k : Nat) : List Hold := List.zipWith (fun a h => (⟨a, h.who, h.n⟩ : Hold)) (now.take k) (hs.take k)
theorem zipL_succ {hs : List Hold} {now : List Int} (hl : now.length = hs.length) {k : Nat} (hk : k < now.length) : zipL hs now (k + 1) = zipL hs now k ++ [⟨now.getD k 0, (hs.getD k Hold.zero).who, (hs.getD k Hold.zero).n⟩] := by
  rw [zipL, List.take_succ_eq_append_getElem (show k < now.length from hk), List.take_succ_eq_append_getElem (show k < hs.length by omega), List.zipWith_append (by simp; omega)]
  simp [zipL, hk, show k < hs.length by omega]
theorem zipL_length {hs : List Hold} {now : List Int} (hl : now.length = hs.length) {k : Nat} (hk : k ≤ now.length) : (zipL hs now k).length = k := by simp [zipL]; omega
theorem zipL_all {hs : List Hold} {now : List Int} (hl : now.length = hs.length) : zipL hs now now.length = List.zipWith (fun a h => (⟨a, h.who, h.n⟩ : Hold)) now hs := by
  rw [zipL, List.take_length, hl, List.take_length]

set_option maxRecDepth 100000 in
set_option maxHeartbeats 4000000 in
theorem rput_any (W w0 : World) (S : Nat → Prop) (b : Nat) (hs : List Hold) (v : Value) (now : List Int) (h : RefObj W S b hs) (hreach : hs.length ≤ 1000000)
    (hN : RSlice (Kint .i64) 1 w0 v now) (hw0 : Below w0.heap.size w0 W) (hSl : ∀ k, S k → k < W.heap.size) :
    Calls Try.prog 28 #[.pointer (some ⟨b, 0, none⟩), v] W fun e W' => e = .returned (.int .i64 (putL hs now).1) ∧ RefObj W' (grow S W W') b (putL hs now).2 ∧ Touch S W W' := by
  obtain ⟨A0, c0, rfl⟩ := ints_slice hN
  have HN := Lib.hid hN
  have HW0 := Lib.hid hw0
  have H := Lib.hid h
  clear hN hw0
  obtain ⟨AL, capL, hcL, hcapL, hrowL⟩ := h.reads
  have HROWL := Lib.hid hrowL
  have HCL := Lib.hid hcL
  clear hrowL
  by_cases hlen : now.length = hs.length
  · have hneb : ((now.length : Int) != (hs.length : Int)) = false := by simp [hlen]
    have HLE := Lib.hid hlen
    have hnl : now.length ≤ 1000000 := by omega
    clear hlen h
    obtain ⟨i0, hi, hz0, hz1, hz2⟩ := info_parts info_rhold
    go_enter Try.func28, Try.ntmps28
    go_wp2
    go_loopw [5] (fun i wr => ∃ k : Nat, k ≤ now.length ∧ i = .int .i64 k ∧ Hid (∀ j, j < k → 1 ≤ now.getD j 0 ∧ ∀ m, m < j → now.getD m 0 ≠ now.getD j 0) ∧ Hid (Below W.heap.size W wr)) (fun i _ => now.length - (intOf i).toNat)
    case atStart => exact ⟨0, by omega, rfl, fun j hj => by omega, Below.refl _ _⟩
    case round =>
      obtain ⟨k, hk, rfl, hno, hb⟩ := hrel
      clear hcL
      by_cases hlt : k < now.length
      · obtain ⟨A2, c2, e2, hcx⟩ := ints_at (HW0.out.trans (hb.out.mono HW0.out.size)) HN.out hlt
        obtain ⟨rfl, -, rfl⟩ := Value.slice.inj e2
        clear e2
        have hkl : (k : Int) < (now.length : Int) := by omega
        have hk0 : (0 : Int) ≤ (k : Int) := by omega
        by_cases hx : now.getD k 0 < 1
        · have E1 := Lib.hid (put_low (hs := hs) hlt hx)
          obtain ⟨x, hx'⟩ : ∃ x, x = now.getD k 0 := ⟨_, rfl⟩
          rw [← hx'] at hcx hx
          clear hx'
          go_wp2
          go_ret
          rw [E1.out]
          exact ⟨rfl, (H.out.below hb.out).quiet_, Touch.of_below hb.out⟩
        · have hx1 : 1 ≤ now.getD k 0 := by omega
          have HX1 := Lib.hid hx1
          obtain ⟨x, hx'⟩ : ∃ x, x = now.getD k 0 := ⟨_, rfl⟩
          rw [← hx'] at hcx hx1
          have HXE := Lib.hid hx'
          clear hx' hx
          go_wp2
          clear hcx
          go_loopw [6] (fun i2 wr2 => ∃ m : Nat, m ≤ k ∧ i2 = .int .i64 m ∧ Hid (∀ j, j < m → now.getD j 0 ≠ now.getD k 0) ∧ Hid (Below W.heap.size W wr2)) (fun i2 _ => k - (intOf i2).toNat)
          case atStart => exact ⟨0, by omega, rfl, fun j hj => by omega, hb.out⟩
          case round =>
            obtain ⟨m, hm, rfl, hno2, hb2⟩ := hrel
            by_cases hlt2 : m < k
            · obtain ⟨A3, c3, e3, hcm⟩ := ints_at (HW0.out.trans (hb2.out.mono HW0.out.size)) HN.out (k := m) (by omega)
              obtain ⟨e4, -, rfl⟩ := Value.slice.inj e3
              cases e4
              clear e3
              obtain ⟨A3, c3, e3, hck⟩ := ints_at (HW0.out.trans (hb2.out.mono HW0.out.size)) HN.out hlt
              obtain ⟨e4, -, rfl⟩ := Value.slice.inj e3
              cases e4
              clear e3
              rw [← HXE.out] at hck
              have hml : (m : Int) < (k : Int) := by omega
              have hml2 : (m : Int) < (now.length : Int) := by omega
              have hm0 : (0 : Int) ≤ (m : Int) := by omega
              by_cases hy : now.getD m 0 = now.getD k 0
              · have E1 := Lib.hid (put_twice (hs := hs) hlt hlt2 hy)
                have hcm' : wr.cell? (A2.add m) = some (.int .i64 x) := by rw [HXE.out, ← hy]; exact hcm
                clear hcm hy
                have hxb : (x == x) = true := by simp
                go_wp2
                go_quiet (fail)
                go_wp2
                go_ret
                rw [E1.out]
                exact ⟨rfl, (H.out.below (pw_below_drewN hb2.out _)).quiet_, Touch.of_below (pw_below_drewN hb2.out _)⟩
              · have HY := Lib.hid hy
                obtain ⟨y, hy'⟩ : ∃ y, y = now.getD m 0 := ⟨_, rfl⟩
                rw [← hy'] at hcm hy
                rw [← HXE.out] at hy
                have hyb : (y == x) = false := by simp [hy]
                clear hy hy'
                go_wp2
                go_quiet (fail)
                go_wp2
                go_roundw
                case rel => exact ⟨m + 1, by omega, by go_num, fun j hj => by rcases Nat.lt_succ_iff_lt_or_eq.1 hj with h | h; exact hno2.out j h; subst h; exact HY.out, pw_below_drewN hb2.out _⟩
                case measure => simp [intOf]; omega
            · have hkb : decide (m < k) = false := by simp; omega
              have hke : m = k := by omega
              have HKE := Lib.hid hke
              clear hlt2 hke
              go_wp2
              go_roundw
              case rel => exact ⟨k + 1, by omega, by go_num, fun j hj => by rcases Nat.lt_succ_iff_lt_or_eq.1 hj with h | h; exact hno.out j h; subst h; exact ⟨HX1.out, fun m' hm' => hno2.out m' (by have := HKE.out; omega)⟩, hb2.out⟩
              case measure => simp [intOf]; omega
      · have hkb : decide (k < now.length) = false := by simp; omega
        have hok : putOk hs now := putOk_of HLE.out (fun j hj => hno.out j (by omega))
        have e1 : putL hs now = (0, zipL hs now now.length) := by rw [putL, if_pos hok, zipL_all HLE.out]
        have E1 := Lib.hid e1
        clear e1 hok hlt hno
        go_wp2
        go_loopw [7, 8] (fun v i wr2 => ∃ k : Nat, k ≤ now.length ∧ i = .int .i64 k ∧ Hid (wr2.ownsRow W.heap.size 60 3 v k (cellsH (zipL hs now k))) ∧ Hid (Below W.heap.size W wr2)) (fun _ i _ => now.length - (intOf i).toNat)
        case atStart => exact ⟨0, by omega, rfl, by have : zipL hs now 0 = [] := by simp [zipL]
                                                    rw [this]; exact World.ownsRow_nil _ _ _ _, hb.out⟩
        case round =>
          obtain ⟨k, hk, rfl, hown, hb3⟩ := hrel
          obtain ⟨A, cap, hc, hcap, hrow⟩ := (H.out.below hb3.out).reads
          have HROW := Lib.hid hrow
          clear hrow
          by_cases hlt : k < now.length
          · obtain ⟨g, rfl, u0, u1, u2⟩ := HROWL.out k (by have := HLE.out; omega)
            obtain ⟨A3, c3, e3, u3⟩ := ints_at HW0.out HN.out hlt
            obtain ⟨rfl, -, rfl⟩ := Value.slice.inj e3
            clear e3 hc hcap
            have hkl : (k : Int) < (now.length : Int) := by omega
            have hkl2 : (k : Int) < (hs.length : Int) := by have := HLE.out; omega
            have hk0 : (0 : Int) ≤ (k : Int) := by omega
            have hT := zipL_succ HLE.out hlt
            obtain ⟨⟨xa, xw, xn⟩, hX⟩ : ∃ x, x = hs.getD k Hold.zero := ⟨_, rfl⟩
            obtain ⟨x, hx'⟩ : ∃ x, x = now.getD k 0 := ⟨_, rfl⟩
            rw [← hX] at u0 u1 u2 hT
            rw [← hx'] at u3 hT
            dsimp only at u0 u1 u2 hT
            clear hX hx' u0
            have HT := Lib.hid hT
            have S4 : Hid (∀ wq, Below W.heap.size W wq → wq.cell? ⟨b, 0, none⟩ = some (Value.slice (some ⟨g, 0, none⟩) hs.length capL) ∧ wq.cell? ⟨g, k * 3 + 1, none⟩ = some (Value.int .i64 xw) ∧ wq.cell? ⟨g, k * 3 + 2, none⟩ = some (Value.int .i64 xn) ∧ wq.cell? (A3.add k) = some (Value.int .i64 x)) := fun wq hq => ⟨cell_at_below hq HCL.out, cell_at_below hq u1, cell_at_below hq u2, cell_at_below hq u3⟩
            clear hT u1 u2 u3
            have ho := hown.out
            obtain ⟨ao, c9, rfl⟩ := own_form ho
            clear ho
            have S4w := S4.out wr.drew (pw_below_drewN hb3.out 1)
            have S4a := S4.out (wr.alloc (.cells #[.int .i64 x, .int .i64 xw, .int .i64 xn] 60)).drew (pw_below_drewN (hb3.out.alloc hb3.out.size _) 1)
            go_wp2_with fail
            go_region_held_law (fun wq => wq.cell? ⟨b, 0, none⟩ = some (Value.slice (some ⟨g, 0, none⟩) hs.length capL) ∧ wq.cell? ⟨g, k * 3 + 1, none⟩ = some (Value.int .i64 xw) ∧ wq.cell? ⟨g, k * 3 + 2, none⟩ = some (Value.int .i64 xn) ∧ wq.cell? (A3.add k) = some (Value.int .i64 x)) (first | exact S4x | exact S4a | exact S4w) ((refine step_append_run rfl (.tmp 48) (.tmp 70) 37 37 rfl (.slice ao k c9) (.slice (some ⟨wr.heap.size, 0, none⟩) 1 1) (by simp [Act.eval]) (by simp [Act.eval]) (run_append_own_at' _ W.heap.size 37 _ 60 i0 (.agg #[.int .i64 0, .int .i64 0, .int .i64 0]) 3 24 Try.underlying37 hi hz0 hz1 hz2 rfl (by decide) _ k _ (World.ownsRow.alloc (show wr.drew.ownsRow W.heap.size 60 3 (.slice ao k c9) k (cellsH (zipL hs now k)) from hown.out) _) ⟨_, 0, none⟩ 1 1 [.int .i64 x, .int .i64 xw, .int .i64 xn] rfl (news_at' _ _ _ _ (by simp)) (by simp [Value.oneCell']) (by unfold maxLen; omega) (by omega) (by have := hb3.out.size; simp; omega)) ?_; rintro v' w2 ⟨hown', hgrow⟩; have T2 := Lib.hid (below_append (show wr.drew.ownsRow W.heap.size 60 3 (.slice ao k c9) k (cellsH (zipL hs now k)) from hown.out) (pw_below_drewN hb3.out 1) hb3.out.size hgrow); have O2 := Lib.hid hown'; clear hown' hgrow; have S4x := S4.out _ T2.out))
            all_goals (go_wp2; go_roundw; (case rel => exact ⟨k + 1, by omega, by go_num, by rw [HT.out, cellsH_append]; exact O2.out, T2.out⟩); (case measure => simp [intOf]; omega))
          · have hkb : decide (k < now.length) = false := by simp; omega
            have hke : k = now.length := by omega
            have HKE := Lib.hid hke
            clear hlt hke
            have ho := hown.out
            rw [HKE.out] at ho
            obtain ⟨ao, c9, rfl⟩ := own_form ho
            have HO := Lib.hid ho
            clear ho hown
            have hfb : wr.frozen? ⟨b, 0, none⟩ = false := by obtain ⟨_, v, hv, _⟩ := H.out.below hb3.out; exact hv.frozen
            go_wp2
            go_ret
            have ho := HO.out
            obtain ⟨hbS, v0, hv0, _⟩ := H.out.below hb3.out
            have hsz := hb3.out.size
            rw [E1.out]
            refine ⟨rfl, ⟨.inl hbS, _, hv0.set _, ?_, ?_⟩, (Touch.of_below hb3.out).setCell (.inl hbS) _⟩
            · rw [zipL_length HLE.out (Nat.le_refl _)]
              exact own_set (own_zero ho) (fun e => by have := (ho.lt b e.symm).1; have := hSl b hbS; omega) _ _
            · intro k hk
              have := ho.lt k hk
              exact .inr ⟨this.1, by simpa [World.setCell] using this.2⟩
  · have hneb : ((now.length : Int) != (hs.length : Int)) = true := by simp; omega
    have e1 : putL hs now = (2, hs) := by
      rw [putL, if_neg]
      intro ⟨h1, _⟩
      exact hlen h1
    rw [e1]
    clear e1 hlen
    go_enter Try.func28, Try.ntmps28
    go_wp2
    go_ret
    exact ⟨rfl, H.out.quiet_, Touch.refl _ _⟩
end Go.Proofs.Ytmlcififmjpcpaa
