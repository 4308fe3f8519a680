/-
  Part of a proof: ParO, ParP, ParQ.
-/
import Derived.Test.YtcaigcmbgihhkaaGreatDoorZParI
namespace Go.Proofs.YtcaigcmbgihhkaaGreatDoor
open Go Go.RowKit Go.Shelf
set_option linter.unusedVariables false
set_option linter.unusedSimpArgs false
attribute [local go_sem] Oper.semAt_some
def signV (s : PSt) (l : List Bs) : Value × Bool := match l.find? (fun t => aheadP s 0 t) with | some t => (.string (mkB t), true) | none => (.string ⟨#[]⟩, false)
set_option maxRecDepth 100000 in
set_option maxHeartbeats 2000000 in
theorem sign_any (w : World) (pB : Nat) (en : Int) (s : PSt) (A : Option Addr) (c n : Nat) (l : List Bs) (hn : n = l.length) (hl : n ≤ 10) (h : PAt w pB en s) (ht : TextsAt w pB A l) :
    Calls Tryz.prog 220 #[.pointer (some ⟨pB, 0, none⟩), .slice A n c] w fun e w' => e = .returned (.tuple #[(signV s l).1, .bool (signV s l).2]) ∧ w = w' := by
  have H := Lib.hid h
  have HT := Lib.hid ht
  have HN := Lib.hid hn
  obtain ⟨R, hR⟩ : ∃ R, R = signV s l := ⟨_, rfl⟩
  rw [← hR]
  have HR := Lib.hid hR
  clear h ht hn hR
  go_enter Tryz.func220, Tryz.ntmps220
  go_wp2_with fail
  go_loopw [10] (fun s10 wr => ∃ (k : Nat), k ≤ n ∧ s10 = .int .i64 (k : Int) ∧ Hid (R = signV s (l.drop k)) ∧ w = wr) (fun s10 _ => n - (intOf s10).toNat)
  case atStart => exact ⟨0, Nat.zero_le _, rfl, HR, rfl⟩
  case round =>
    obtain ⟨k, hk, rfl, hm, rfl⟩ := hrel
    by_cases hkn : k < n
    · obtain ⟨t, hlt⟩ : ∃ t, l[k]? = some t := ⟨_, List.getElem?_eq_getElem (by rw [← HN.out]; exact hkn)⟩
      obtain ⟨q, rfl, hq1, hq2, hq3⟩ := HT.out (by rintro e; rw [e] at hlt; simp at hlt)
      have cq : w.cell? ⟨q, k, none⟩ = some (.string (mkB t)) := hq3 k t hlt
      have hd : l.drop k = t :: l.drop (k + 1) := by
        have hkl := (List.getElem?_eq_some_iff.1 hlt).1
        rw [List.drop_eq_getElem_cons hkl]
        congr 1
        exact (List.getElem?_eq_some_iff.1 hlt).2
      have hm' := hm.out
      rw [hd] at hm'
      have ha := ahead_any w pB en s 0 (by omega) (mkB t) H.out
      rw [bl_mkB] at ha
      cases hq : aheadP s 0 t with
      | true =>
        rw [hq] at ha
        have hre : R = (.string (mkB t), true) := by rw [hm', signV, List.find?_cons, hq]
        have HA := Lib.hid ha
        subst hre
        clear hm' ha hq hd hlt hq3 hm HR
        go_wp2_with fail
        refine HA.out.mono ?_
        rintro e w1 ⟨rfl, rfl⟩
        go_wp2_with fail
        go_ret2
        exact ⟨rfl, rfl⟩
      | false =>
        rw [hq] at ha
        have hre : R = signV s (l.drop (k + 1)) := by rw [hm', signV, List.find?_cons, hq]; rfl
        have HA := Lib.hid ha
        have HM := Lib.hid hre
        clear hm' ha hq hd hlt hq3 hm hre
        go_wp2_with fail
        refine HA.out.mono ?_
        rintro e w1 ⟨rfl, rfl⟩
        go_wp2_with fail
        go_roundw
        case rel => exact ⟨k + 1, by omega, by go_num, HM, trivial⟩
        case measure => simp [intOf]; omega
    · obtain rfl : k = n := by omega
      have hm' := hm.out
      rw [List.drop_eq_nil_of_le (by rw [← HN.out]; exact Nat.le_refl _)] at hm'
      have hre : R = (.string ⟨#[]⟩, false) := hm'
      subst hre
      clear hm' hm HR
      go_wp2_with fail
      go_ret2
      exact ⟨rfl, rfl⟩
def ranksN (kk : Nat) : Nat := (ranksL kk).length
set_option maxRecDepth 100000 in
set_option maxHeartbeats 2000000 in
theorem ranks_any (w : World) : Calls Tryz.prog 218 #[] w fun e w' => e = .returned (.agg #[.slice (some ⟨w.heap.size + 1, 0, none⟩) 1 1, .slice (some ⟨w.heap.size + 1 + 1, 0, none⟩) 1 1, .slice (some ⟨w.heap.size + 1 + 1 + 1, 0, none⟩) 6 6, .slice (some ⟨w.heap.size + 1 + 1 + 1 + 1, 0, none⟩) 2 2, .slice (some ⟨w.heap.size + 1 + 1 + 1 + 1 + 1, 0, none⟩) 3 3]) ∧ Below w.heap.size w w' ∧
    ∀ kk, kk < 5 → Blk w' (w.heap.size + 1 + kk) 9 ((ranksL kk).map fun t => Value.string (mkB t)).toArray := by
  go_enter Tryz.func218, Tryz.ntmps218
  go_wp2_with fail
  have h0 := ((((((Below.refl w.heap.size w).alloc (Nat.le_refl _) (.cells #[Value.slice (some ⟨w.heap.size + 1, 0, none⟩) 1 1, .slice (some ⟨w.heap.size + 1 + 1, 0, none⟩) 1 1, .slice (some ⟨w.heap.size + 1 + 1 + 1, 0, none⟩) 6 6, .slice (some ⟨w.heap.size + 1 + 1 + 1 + 1, 0, none⟩) 2 2, .slice (some ⟨w.heap.size + 1 + 1 + 1 + 1 + 1, 0, none⟩) 3 3] 289)).alloc (by simp) (.cells #[Value.string ⟨#[124, 124]⟩] 9)).alloc (by simp; omega) (.cells #[Value.string ⟨#[38, 38]⟩] 9)).alloc (by simp; omega) (.cells #[Value.string ⟨#[60]⟩, .string ⟨#[60, 61]⟩, .string ⟨#[62]⟩, .string ⟨#[62, 61]⟩, .string ⟨#[61, 61]⟩, .string ⟨#[33, 61]⟩] 9)).alloc (by simp; omega) (.cells #[Value.string ⟨#[43]⟩, .string ⟨#[45]⟩] 9)).alloc (by simp; omega) (.cells #[Value.string ⟨#[42]⟩, .string ⟨#[47]⟩, .string ⟨#[37]⟩] 9)
  obtain ⟨A0, hA0⟩ : ∃ A0, A0 = #[Value.slice (some ⟨w.heap.size + 1, 0, none⟩) 1 1, .slice (some ⟨w.heap.size + 1 + 1, 0, none⟩) 1 1, .slice (some ⟨w.heap.size + 1 + 1 + 1, 0, none⟩) 6 6, .slice (some ⟨w.heap.size + 1 + 1 + 1 + 1, 0, none⟩) 2 2, .slice (some ⟨w.heap.size + 1 + 1 + 1 + 1 + 1, 0, none⟩) 3 3] := ⟨_, rfl⟩
  have hsz : A0.size = 5 := by rw [hA0]; rfl
  rw [← hA0] at h0 ⊢
  have q0 := ((((((Blk.new w 289 A0).alloc (.cells #[Value.string ⟨#[124, 124]⟩] 9)).alloc (.cells #[Value.string ⟨#[38, 38]⟩] 9)).alloc (.cells #[Value.string ⟨#[60]⟩, .string ⟨#[60, 61]⟩, .string ⟨#[62]⟩, .string ⟨#[62, 61]⟩, .string ⟨#[61, 61]⟩, .string ⟨#[33, 61]⟩] 9)).alloc (.cells #[Value.string ⟨#[43]⟩, .string ⟨#[45]⟩] 9)).alloc (.cells #[Value.string ⟨#[42]⟩, .string ⟨#[47]⟩, .string ⟨#[37]⟩] 9))
  refine bodyPost_ret (results_cell_row (fn := Tryz.f218) rfl _ _ w.heap.size 289 A0 (0, 0) _ rfl q0 rfl rfl (by rw [hsz]; rfl)) rfl ⟨rfl, h0, ?_⟩
  clear q0 h0
  have N := fun (W : World) (cs : Array Value) => Blk.new W 9 cs
  have q1 := (((((N (w.alloc (.cells A0 289)) #[Value.string ⟨#[124, 124]⟩]).alloc (.cells #[Value.string ⟨#[38, 38]⟩] 9)).alloc (.cells #[Value.string ⟨#[60]⟩, .string ⟨#[60, 61]⟩, .string ⟨#[62]⟩, .string ⟨#[62, 61]⟩, .string ⟨#[61, 61]⟩, .string ⟨#[33, 61]⟩] 9)).alloc (.cells #[Value.string ⟨#[43]⟩, .string ⟨#[45]⟩] 9)).alloc (.cells #[Value.string ⟨#[42]⟩, .string ⟨#[47]⟩, .string ⟨#[37]⟩] 9))
  have q2 := ((((N ((w.alloc (.cells A0 289)).alloc (.cells #[Value.string ⟨#[124, 124]⟩] 9)) #[Value.string ⟨#[38, 38]⟩]).alloc (.cells #[Value.string ⟨#[60]⟩, .string ⟨#[60, 61]⟩, .string ⟨#[62]⟩, .string ⟨#[62, 61]⟩, .string ⟨#[61, 61]⟩, .string ⟨#[33, 61]⟩] 9)).alloc (.cells #[Value.string ⟨#[43]⟩, .string ⟨#[45]⟩] 9)).alloc (.cells #[Value.string ⟨#[42]⟩, .string ⟨#[47]⟩, .string ⟨#[37]⟩] 9))
  have q3 := (((N (((w.alloc (.cells A0 289)).alloc (.cells #[Value.string ⟨#[124, 124]⟩] 9)).alloc (.cells #[Value.string ⟨#[38, 38]⟩] 9)) #[Value.string ⟨#[60]⟩, .string ⟨#[60, 61]⟩, .string ⟨#[62]⟩, .string ⟨#[62, 61]⟩, .string ⟨#[61, 61]⟩, .string ⟨#[33, 61]⟩]).alloc (.cells #[Value.string ⟨#[43]⟩, .string ⟨#[45]⟩] 9)).alloc (.cells #[Value.string ⟨#[42]⟩, .string ⟨#[47]⟩, .string ⟨#[37]⟩] 9))
  have q4 := ((N ((((w.alloc (.cells A0 289)).alloc (.cells #[Value.string ⟨#[124, 124]⟩] 9)).alloc (.cells #[Value.string ⟨#[38, 38]⟩] 9)).alloc (.cells #[Value.string ⟨#[60]⟩, .string ⟨#[60, 61]⟩, .string ⟨#[62]⟩, .string ⟨#[62, 61]⟩, .string ⟨#[61, 61]⟩, .string ⟨#[33, 61]⟩] 9)) #[Value.string ⟨#[43]⟩, .string ⟨#[45]⟩]).alloc (.cells #[Value.string ⟨#[42]⟩, .string ⟨#[47]⟩, .string ⟨#[37]⟩] 9))
  have q5 := N (((((w.alloc (.cells A0 289)).alloc (.cells #[Value.string ⟨#[124, 124]⟩] 9)).alloc (.cells #[Value.string ⟨#[38, 38]⟩] 9)).alloc (.cells #[Value.string ⟨#[60]⟩, .string ⟨#[60, 61]⟩, .string ⟨#[62]⟩, .string ⟨#[62, 61]⟩, .string ⟨#[61, 61]⟩, .string ⟨#[33, 61]⟩] 9)).alloc (.cells #[Value.string ⟨#[43]⟩, .string ⟨#[45]⟩] 9)) #[Value.string ⟨#[42]⟩, .string ⟨#[47]⟩, .string ⟨#[37]⟩]
  simp only [World.size_alloc] at q1 q2 q3 q4 q5
  intro kk hk
  have hk' : kk = 0 ∨ kk = 1 ∨ kk = 2 ∨ kk = 3 ∨ kk = 4 := by omega
  rcases hk' with rfl | rfl | rfl | rfl | rfl
  · exact q1
  · exact q2
  · exact q3
  · exact q4
  · exact q5
end Go.Proofs.YtcaigcmbgihhkaaGreatDoor
namespace Go.Proofs.YtcaigcmbgihhkaaGreatDoor
open Go Go.RowKit Go.Shelf
set_option linter.unusedVariables false
set_option linter.unusedSimpArgs false
attribute [local go_sem] Oper.semAt_some
theorem Rd.lay {pB : Nat} {en : Int} {w W : World} {Ls : List (Nat × TypeId × Array Value)} {Ks : List (List NodeD × Value)} {s : PSt} {q : Nat} {T : TypeId} {a0 a1 a2 a3 a4 a5 : Value} (h : Rd pB en w ((q, T, #[a0, a1, a2, a3, a4, a5]) :: Ls) Ks W s) (hd : ∀ y ∈ Ls, y.1 ≠ q) (a b c d e f : Value) :
    Rd pB en w ((q, T, #[a, b, c, d, e, f]) :: Ls) Ks ((((((W.setCell ⟨q, 0, none⟩ a).setCell ⟨q, 1, none⟩ b).setCell ⟨q, 2, none⟩ c).setCell ⟨q, 3, none⟩ d).setCell ⟨q, 4, none⟩ e).setCell ⟨q, 5, none⟩ f) s := by
  have := (((((h.set hd 0 a).set hd 1 b).set hd 2 c).set hd 3 d).set hd 4 e).set hd 5 f
  simpa using this
theorem two_ne {q q' q2 : Nat} {T T2 : TypeId} {cs cs2 : Array Value} (h : q ≠ q') (h2 : q2 ≠ q') : ∀ y ∈ [(q, T, cs), (q2, T2, cs2)], y.1 ≠ q' := by
  intro y hy
  rcases List.mem_cons.1 hy with rfl | hy
  · exact h
  · exact one_ne h2 y hy
theorem Rd.six7 {pB : Nat} {en : Int} {w W : World} {Ls : List (Nat × TypeId × Array Value)} {Ks : List (List NodeD × Value)} {s : PSt} {q : Nat} {T : TypeId} {cs : Array Value} (h : Rd pB en w Ls Ks W s) (hm : (q, T, cs) ∈ Ls) (i : Nat) : W.cell? ⟨q, i, none⟩ = cs[i]? := (h.six6 hm).cell i
theorem Rd.own {pB : Nat} {en : Int} {w W : World} {Ls : List (Nat × TypeId × Array Value)} {s : PSt} (h : Rd pB en w Ls [] W s) {q : Nat} {T : TypeId} {cs : Array Value} (hb : Blk W q T cs) (hq : w.heap.size ≤ q) : Rd pB en w ((q, T, cs) :: Ls) [] W s :=
  ⟨h.pat, h.tch, fun x hx => by
    rcases List.mem_cons.1 hx with rfl | hx
    · exact ⟨hb, hq⟩
    · exact h.blk x hx, fun x hx => by simp at hx, h.plt⟩
theorem three_ne {q q' q2 q3 : Nat} {T T2 T3 : TypeId} {cs cs2 cs3 : Array Value} (h : q ≠ q') (h2 : q2 ≠ q') (h3 : q3 ≠ q') : ∀ y ∈ [(q, T, cs), (q2, T2, cs2), (q3, T3, cs3)], y.1 ≠ q' := by
  intro y hy
  rcases List.mem_cons.1 hy with rfl | hy
  · exact h
  · exact two_ne h2 h3 y hy
theorem arr_cell (b kk : Nat) (h : kk ≤ 4) : (#[Value.slice (some ⟨b + 1, 0, none⟩) 1 1, .slice (some ⟨b + 1 + 1, 0, none⟩) 1 1, .slice (some ⟨b + 1 + 1 + 1, 0, none⟩) 6 6, .slice (some ⟨b + 1 + 1 + 1 + 1, 0, none⟩) 2 2, .slice (some ⟨b + 1 + 1 + 1 + 1 + 1, 0, none⟩) 3 3] : Array Value)[kk]? = some (.slice (some ⟨b + 1 + kk, 0, none⟩) (ranksN kk) (ranksN kk)) := by
  have hk' : kk = 0 ∨ kk = 1 ∨ kk = 2 ∨ kk = 3 ∨ kk = 4 := by omega
  rcases hk' with rfl | rfl | rfl | rfl | rfl <;> rfl
theorem ranks_short (kk : Nat) : ranksN kk ≤ 6 := by
  unfold ranksN ranksL
  split <;> simp
set_option maxRecDepth 100000 in
set_option maxHeartbeats 2000000 in
theorem rank_any (m : Nat) (H : ∀ k, k < m → RankC k ∧ NTC k .un 219) : RankC m := by
  intro kk hkk w pB en s r h hr
  cases m with
  | zero => simp [runP] at hr
  | succ m =>
    rw [runP] at hr
    have hpl := h.lt
    have RA := Lib.hid ((Rd.start h).alloc 79 zeroN)
    have HR := Lib.hid hr
    have hk0 : (0 : Int) ≤ (kk : Int) := by omega
    have hk9 : (kk : Int) ≤ 5 := by omega
    have hw1 : IntKind.i64.wrap ((kk : Int) + 1) = (kk : Int) + 1 := by rw [IntKind.wrap_i64]; omega
    clear h hr
    go_enter Tryz.func200, Tryz.ntmps200
    go_wp2_with fail
    refine (ranks_any _).mono ?_
    rintro e W1 ⟨rfl, hb1, hrows⟩
    have hsz1 := hb1.size
    simp only [World.size_alloc] at hrows hb1 hsz1
    obtain ⟨A0, hA0⟩ : ∃ A0, A0 = #[Value.slice (some ⟨w.heap.size + 1 + 1, 0, none⟩) 1 1, .slice (some ⟨w.heap.size + 1 + 1 + 1, 0, none⟩) 1 1, .slice (some ⟨w.heap.size + 1 + 1 + 1 + 1, 0, none⟩) 6 6, .slice (some ⟨w.heap.size + 1 + 1 + 1 + 1 + 1, 0, none⟩) 2 2, .slice (some ⟨w.heap.size + 1 + 1 + 1 + 1 + 1 + 1, 0, none⟩) 3 3] := ⟨_, rfl⟩
    have hAc : kk ≤ 4 → A0[kk]? = some (.slice (some ⟨w.heap.size + 1 + 1 + kk, 0, none⟩) (ranksN kk) (ranksN kk)) := fun h => by rw [hA0]; exact arr_cell (w.heap.size + 1) kk h
    have HA0 := Lib.hid hA0
    have RB := Lib.hid ((((RA.out.call (RA.out.pat.below (by simpa using hb1)) (Tch.below (by simpa using hb1))))).alloc 289 A0)
    have RBr := Lib.hid (fun (h : kk ≤ 4) => ((RA.out.call (RA.out.pat.below (by simpa using hb1)) (Tch.below (by simpa using hb1))).own (hrows kk (by omega)) (by omega)).alloc 289 A0)
    clear hA0
    clear hrows hb1 RA
    by_cases h5 : kk = 5
    · subst h5
      have hr := HR.out
      rw [if_pos rfl] at hr
      have C := Lib.hid ((H m (by omega)).2 _ pB en s r RB.out.pat hr)
      clear hr HR hk0 hk9
      go_wp2_with fail
      rw [← HA0.out]
      refine C.out.mono ?_
      rintro e w3 hE
      cases r with
      | error f =>
        obtain ⟨rfl, ht⟩ := hE
        go_wp2_with fail
        exact ⟨rfl, rfl, Tch.trans RB.out.tch ht⟩
      | ok x =>
        obtain ⟨n, s'⟩ := x
        obtain ⟨⟨v, rfl, hk⟩, hp, ht⟩ := hE
        have R2 := Lib.hid (RB.out.node hp ht hk)
        obtain ⟨ka, kc, rfl⟩ := hk.form
        obtain ⟨r0, r1, r2, r3, r4, r5, rf, rl⟩ := (R2.out.six6 (.tail _ (.head _))).six
        clear hk hp ht
        go_wp2_with fail
        exact R2.out.fin n _ rfl rfl rfl (.tail _ (.head _)) (.head _)
    · have hr := HR.out
      rw [if_neg h5] at hr
      have HR0 := Lib.hid hr
      have hk5 : ((kk : Int) == 5) = false := beq_eq_false_iff_ne.2 (by omega)
      have hk4 : kk ≤ 4 := by omega
      have hk4I : (kk : Int) < 5 := by omega
      have RC := Lib.hid (RBr.out hk4)
      clear hr HR h5 hk9
      go_wp2_with fail
      rw [← HA0.out]
      refine RC.out.nt HR0.out (fun r1 h1 => by have := (H m (by omega)).1 (kk + 1) (by omega) _ pB en s r1 RC.out.pat h1; rwa [show (((kk + 1 : Nat)) : Int) = (kk : Int) + 1 by omega] at this) trivial (fun fl w' e ht => ?_) (fun n v s2 w2 hr2 hl2 R2 hv => ?_)
      · subst e; go_wp2_with fail; exact ⟨rfl, rfl, ht⟩
      obtain ⟨ka, kc, rfl⟩ := hv
      have HR2 := Lib.hid hr2
      have R3 := Lib.hid (R2.out.alloc 79 #[.int .i64 n.op, .string (mkB n.text), .string (mkB n.type), .int .i64 n.n, .slice ka n.kids.length kc, .int .i64 n.at_])
      clear hr2
      go_wp2_with fail
      have cA := hAc hk4
      have hq1 : w.heap.size < W1.heap.size := by omega
      have hq2 : W1.heap.size < w2.heap.size := R2.out.six6 (.head _) |>.lt
      have hq3 : w.heap.size + 1 + 1 + kk < w2.heap.size := R2.out.six6 (.tail _ (.head _)) |>.lt
      have hN := ranks_short kk
      have hN' : ranksN kk = (ranksL kk).length := rfl
      have HN' := Lib.hid hN'
      clear hN'
      go_loopg [] m (fun k wr => ∃ (n : NodeD) (ka : Option Addr) (kc : Nat) (s' : PSt), k ≤ m ∧ Hid (Rd pB en w [(w2.heap.size, 79, #[.int .i64 n.op, .string (mkB n.text), .string (mkB n.type), .int .i64 n.n, .slice ka n.kids.length kc, .int .i64 n.at_]), (W1.heap.size, 289, A0), (w.heap.size + 1 + 1 + kk, 9, ((ranksL kk).map fun t => Value.string (mkB t)).toArray), (w.heap.size, 79, zeroN)] [(n.kids, .slice ka n.kids.length kc)] wr s') ∧ Hid (runP en k (.ranks kk n) s' = some r))
      case atStart => exact ⟨n, ka, kc, s2, Nat.le_refl _, R3, HR2⟩
      case round =>
        clear R3 HR2 HR0 RB RBr RC R2
        obtain ⟨n, ka, kc, s', hk, RR, HRn⟩ := hrel
        cases gk with
        | zero => exact absurd HRn.out (by simp [runP])
        | succ k =>
          have hr := HRn.out
          rw [runP] at hr
          dsimp only at hr
          have cAr : wr.cell? ⟨W1.heap.size, kk, none⟩ = some (.slice (some ⟨w.heap.size + 1 + 1 + kk, 0, none⟩) (ranksN kk) (ranksN kk)) := (RR.out.six7 (.tail _ (.head _)) kk).trans cA
          have bt := RR.out.six6 (.tail _ (.tail _ (.head _)))
          have hta : TextsAt wr pB (some ⟨w.heap.size + 1 + 1 + kk, 0, none⟩) (ranksL kk) := fun _ => ⟨_, rfl, by omega, bt.lt, fun j t ht => by
            rw [bt.cell, List.getElem?_toArray, List.getElem?_map, ht]; rfl⟩
          have S := sign_any wr pB en s' (some ⟨w.heap.size + 1 + 1 + kk, 0, none⟩) (ranksN kk) (ranksN kk) (ranksL kk) HN'.out (by omega) RR.out.pat hta
          unfold signV at S
          clear bt hta
          have hf : ∃ q, (ranksL kk).find? (fun t => aheadP s' 0 t) = q := ⟨_, rfl⟩
          obtain ⟨q, hq⟩ := hf
          rw [hq] at S hr
          cases q with
          | none =>
            dsimp only at S hr
            have S := Lib.hid S
            obtain rfl : r = .ok (n, s') := by simpa using hr.symm
            clear hr hq
            go_wp2_with fail
            refine S.out.mono ?_
            rintro e w3 ⟨rfl, rfl⟩
            obtain ⟨n0, n1, n2, n3, n4, n5, nf, nl⟩ := (RR.out.six6 (.head _)).six
            obtain ⟨r0, r1, r2, r3, r4, r5, rf, rl⟩ := (RR.out.six6 (.tail _ (.tail _ (.tail _ (.head _))))).six
            go_wp2_with fail
            exact RR.out.fin n _ rfl rfl rfl (.tail _ (.tail _ (.tail _ (.head _)))) (.head _)
          | some t =>
            dsimp only at S hr
            have S := Lib.hid S
            have ha : aheadP s' 0 t = true := List.find?_some hq
            have hm : mustP en [t] s' = some (.ok ((), nextP s')) := by rw [mustP]; dsimp only; rw [if_pos ha]; rfl
            have hr' : PM.bind (mustP en [t]) (fun _ => PM.bind (runP en k (.rank (kk + 1))) (fun e => if kk = 2 then PM.pure (.mk 17 t [] 0 [n, e] (placeP en s')) else runP en k (.ranks kk (.mk 17 t [] 0 [n, e] (placeP en s'))))) s' = some r := by
              rw [PM.bind, hm]
              exact hr
            have HR1 := Lib.hid hr'
            clear hr hq ha hm hr'
            go_wp2_with fail
            refine S.out.mono ?_
            rintro e w3 ⟨rfl, rfl⟩
            go_wp2_with fail
            refine RR.out.must HR1.out rfl (bl_mkB _) (fun fl w' e ht => ?_) (fun s4 w4 hr4 hl4 R4 => ?_)
            · subst e; go_wp2_with fail; exact ⟨rfl, rfl, ht⟩
            have HR4 := Lib.hid hr4
            obtain ⟨n0, n1, n2, n3, n4, n5, nf, nl⟩ := (R4.out.six6 (.head _)).six
            clear hr4
            go_wp2_with fail
            go_region_law (go_simp; go_at_call 200; go_loud (refine R4.out.drew.nt HR4.out (fun r1 h1 => by have := (H k (by omega)).1 (kk + 1) (by omega) _ pB en s4 r1 R4.out.drew.pat h1; rwa [show (((kk + 1 : Nat)) : Int) = (kk : Int) + 1 by omega] at this) trivial (fun fl w' e ht => by subst e; go_wp2_with fail; exact ⟨rfl, rfl, ht⟩) (fun a v s5 w5 hr5 hl5 R5 hv => ?_); obtain ⟨ka2, kc2, rfl⟩ := hv; obtain ⟨p0, p1, p2, p3, p4, p5, pf, pl⟩ := (R5.out.six6 (.head _)).six; have HR5 := Lib.hid hr5; clear hr5))
            all_goals
              have hds := three_ne (T := 289) (T2 := 9) (T3 := 79) (cs := A0) (cs2 := ((ranksL kk).map fun t => Value.string (mkB t)).toArray) (cs3 := zeroN) (q := W1.heap.size) (q2 := w.heap.size + 1 + 1 + kk) (q3 := w.heap.size) (q' := w2.heap.size) (by omega) (by omega) (by omega)
              have R7 := Lib.hid ((R5.out.lay hds (.int .i64 17) (.string (mkB t)) (.string ⟨#[]⟩) (.int .i64 0) (.slice (some ⟨w5.heap.size, 0, none⟩) 2 2) (.int .i64 (placeP en s'))).row2 (T := 79) w5.heap.size (by simp [World.setCell]))
              clear hds
              generalize hW7 : (((((((w5.setCell ⟨w2.heap.size, 0, none⟩ (.int .i64 17)).setCell ⟨w2.heap.size, 1, none⟩ (.string (mkB t))).setCell ⟨w2.heap.size, 2, none⟩ (.string ⟨#[]⟩)).setCell ⟨w2.heap.size, 3, none⟩ (.int .i64 0)).setCell ⟨w2.heap.size, 4, none⟩ (.slice (some ⟨w5.heap.size, 0, none⟩) 2 2)).setCell ⟨w2.heap.size, 5, none⟩ (.int .i64 (placeP en s'))).alloc (.cells #[.int .i64 n.op, .string (mkB n.text), .string (mkB n.type), .int .i64 n.n, .slice ka n.kids.length kc, .int .i64 n.at_, .int .i64 a.op, .string (mkB a.text), .string (mkB a.type), .int .i64 a.n, .slice ka2 a.kids.length kc2, .int .i64 a.at_] 79)) = W7 at R7 ⊢
              clear hW7
              by_cases h2 : kk = 2
              · have hr := HR5.out
                rw [if_pos h2] at hr
                obtain rfl : r = .ok (.mk 17 t [] 0 [n, a] (placeP en s'), s5) := by simpa [PM.pure] using hr.symm
                have hb2 : ((kk : Int) == 2) = true := beq_iff_eq.2 (by omega)
                obtain ⟨q0, q1, q2, q3, q4, q5, qf, ql⟩ := (R7.out.six6 (.head _)).six
                obtain ⟨r0, r1, r2, r3, r4, r5, rf, rl⟩ := (R7.out.six6 (.tail _ (.tail _ (.tail _ (.head _))))).six
                clear hr h2
                go_wp2_with fail
                exact R7.out.fin (.mk 17 t [] 0 [n, a] (placeP en s')) _ rfl rfl rfl (.tail _ (.tail _ (.tail _ (.head _)))) (.head _)
              · have hr := HR5.out
                rw [if_neg h2] at hr
                have HR6 := Lib.hid hr
                have hb2 : ((kk : Int) == 2) = false := beq_eq_false_iff_ne.2 (by omega)
                clear hr h2
                go_wp2_with fail
                go_roundg k
                case measure => omega
                case rel => exact ⟨.mk 17 t [] 0 [n, a] (placeP en s'), some ⟨w5.heap.size, 0, none⟩, 2, s5, by omega, Lib.hid (R7.out.drop (by intro x hx; simp only [List.mem_singleton] at hx; subst hx; exact List.mem_cons_self ..)), HR6⟩
end Go.Proofs.YtcaigcmbgihhkaaGreatDoor
namespace Go.Proofs.YtcaigcmbgihhkaaGreatDoor
open Go Go.RowKit Go.Shelf
set_option linter.unusedVariables false
set_option linter.unusedSimpArgs false
attribute [local go_sem] Oper.semAt_some
theorem Rd.list {pB : Nat} {en : Int} {w W : World} {Ls : List (Nat × TypeId × Array Value)} {Ks : List (List NodeD × Value)} {s : PSt} {r : Except Fault (NodeD × PSt)} {Φ : Ending → World → Prop} {n : NodeD} {v : Value} (h : Rd pB en w Ls ((n.kids, v) :: Ks) W s) {m : Nat} (C : ListC m) {f : NodeD → PM NodeD} (hr : PM.bind (runP en m (.list [n])) f s = some r)
    (hE : ∀ fl w', r = .error fl → Tch pB w w' → Φ (.panicked (faultC fl)) w')
    (hK : ∀ a v' s' w', f a s' = some r → s'.ws.length < s.ws.length → Hid (Rd pB en w Ls ((a.kids, v') :: (n.kids, v) :: Ks) w' s') → (∃ ka kc, v' = .slice ka a.kids.length kc) → Φ (.returned v') w') :
    Calls Tryz.prog 222 #[.pointer (some ⟨pB, 0, none⟩), .agg #[.int .i64 n.op, .string (mkB n.text), .string (mkB n.type), .int .i64 n.n, v, .int .i64 n.at_]] W Φ := by
  refine bind_call hr (fun r1 h1 => C W pB en s r1 (fun k => w.heap.size ≤ k ∧ ∀ y ∈ Ls, k ≠ y.1) n v h.pat (h.kid _ (.head _)) (fun hk => by have := h.plt; have := hk.1; omega) h1) (fun fl w' e ht => hE fl w' e (Tch.trans h.tch ht)) ?_
  rintro a s' e w' h2 h1 ⟨v', rfl, hk⟩ hp ht
  refine hK a v' s' w' h2 (ln_run en m (.list [n]) trivial _ _ _ h1) (Lib.hid ((h.call hp ht).keep (hk.mono (fun k hk hl => ?_)))) hk.form
  rcases hk with hk | hk
  · exact hk
  · exact ⟨Nat.le_trans h.size hk, fun y hy => by have := (h.blk y hy).1.lt; omega⟩
set_option maxRecDepth 100000 in
set_option maxHeartbeats 4000000 in
theorem post_any (m : Nat) (H : ∀ k, k < m → NTC k .expr 172 ∧ NTC k .prim 221 ∧ ListC k) : NTC m .post 201 := by
  intro w pB en s r h hr
  cases m with
  | zero => simp [runP] at hr
  | succ m =>
    rw [runP] at hr
    have hpl := h.lt
    have RA := Lib.hid ((Rd.start h).alloc 79 zeroN)
    have HR := Lib.hid hr
    clear h hr
    go_enter Tryz.func201, Tryz.ntmps201
    go_wp2_with fail
    refine RA.out.nt HR.out (fun r1 h1 => (H m (by omega)).2.1 _ pB en s r1 RA.out.pat h1) trivial (fun fl w' e ht => ?_) (fun n v s2 w2 hr2 hl2 R2 hv => ?_)
    · subst e; go_wp2_with fail; exact ⟨rfl, rfl, ht⟩
    obtain ⟨ka, kc, rfl⟩ := hv
    have HR2 := Lib.hid hr2
    have R3 := Lib.hid (R2.out.alloc 79 #[.int .i64 n.op, .string (mkB n.text), .string (mkB n.type), .int .i64 n.n, .slice ka n.kids.length kc, .int .i64 n.at_])
    have hne : w.heap.size ≠ w2.heap.size := by have := (R2.out.six6 (.head _)).lt; omega
    clear hr2
    go_wp2_with fail
    go_loopg [] m (fun k wr => ∃ (n : NodeD) (ka : Option Addr) (kc : Nat) (s' : PSt), k ≤ m ∧ Hid (Rd pB en w [(w2.heap.size, 79, #[.int .i64 n.op, .string (mkB n.text), .string (mkB n.type), .int .i64 n.n, .slice ka n.kids.length kc, .int .i64 n.at_]), (w.heap.size, 79, zeroN)] [(n.kids, .slice ka n.kids.length kc)] wr s') ∧ Hid (runP en k (.posts n) s' = some r))
    case atStart => exact ⟨n, ka, kc, s2, Nat.le_refl _, R3, HR2⟩
    case round =>
      clear R3 HR2 R2 RA HR
      obtain ⟨n, ka, kc, s', hk, RR, HRn⟩ := hrel
      cases gk with
      | zero => exact absurd HRn.out (by simp [runP])
      | succ k =>
        have hr := HRn.out
        rw [runP] at hr
        dsimp only at hr
        clear HRn
        go_wp2_with fail
        refine RR.out.placeR.mono ?_
        rintro e w3 ⟨rfl, R3⟩
        obtain ⟨n0, n1, n2, n3, n4, n5, nf, nl⟩ := (R3.out.six6 (.head _)).six
        cases ha : aheadP s' 0 [46] with
        | true =>
          rw [if_pos ha] at hr
          have HA := Lib.hid ha
          have HR1 := Lib.hid hr
          clear ha hr
          go_wp2_with fail
          refine (R3.out.mayY (b := ⟨#[46]⟩) rfl HA.out).mono ?_
          rintro e w4 ⟨rfl, R4⟩
          go_wp2_with fail
          refine R4.out.name HR1.out (fun fl w' e ht => ?_) (fun x s5 w5 hr5 hl5 R5 => ?_)
          · subst e; go_wp2_with fail; exact ⟨rfl, rfl, ht⟩
          cases hb : aheadP s5 0 [40] with
          | true =>
            rw [if_pos hb] at hr5
            have HB := Lib.hid hb
            have HR5 := Lib.hid hr5
            clear hb hr5
            go_wp2_with fail
            refine (R5.out.mayY (b := ⟨#[40]⟩) rfl HB.out).mono ?_
            rintro e w6 ⟨rfl, R6⟩
            obtain ⟨n0, n1, n2, n3, n4, n5, nf, nl⟩ := (R6.out.six6 (.head _)).six
            go_wp2_with fail
            refine R6.out.list (H k (by omega)).2.2 HR5.out (fun fl w' e ht => ?_) (fun l v7 s7 w7 hr7 hl7 R7 hv => ?_)
            · subst e; go_wp2_with fail; exact ⟨rfl, rfl, ht⟩
            obtain ⟨ka7, kc7, rfl⟩ := hv
            obtain ⟨n0, n1, n2, n3, n4, n5, nf, nl⟩ := (R7.out.six6 (.head _)).six
            have R8 := Lib.hid (R7.out.lay (one_ne hne) (.int .i64 10) (.string (mkB x.1)) (.string ⟨#[]⟩) (.int .i64 0) (.slice ka7 l.kids.length kc7) (.int .i64 (placeP en s')))
            have HR7 := Lib.hid hr7
            clear hr7
            go_wp2_with fail
            go_roundg k
            case measure => omega
            case rel => exact ⟨NodeD.mk 10 x.1 [] 0 l.kids (placeP en s'), ka7, kc7, s7, by omega, Lib.hid ((R8.out).drop (by intro x hx; simp only [List.mem_singleton] at hx; subst hx; exact .head _)), HR7⟩
          | false =>
            rw [if_neg (by rw [hb]; decide)] at hr5
            have HB := Lib.hid hb
            have HR5 := Lib.hid hr5
            clear hb hr5
            go_wp2_with fail
            refine (R5.out.mayNR (b := ⟨#[40]⟩) rfl HB.out).mono ?_
            rintro e w6 ⟨rfl, R6⟩
            obtain ⟨n0, n1, n2, n3, n4, n5, nf, nl⟩ := (R6.out.six6 (.head _)).six
            have R8 := Lib.hid ((R6.out.lay (one_ne hne) (.int .i64 8) (.string (mkB x.1)) (.string ⟨#[]⟩) (.int .i64 0) (.slice (some ⟨w6.heap.size, 0, none⟩) 1 1) (.int .i64 (placeP en s'))).row1 (T := 79) (a := n) w6.heap.size (by simp [World.setCell]))
            go_wp2_with fail
            go_roundg k
            case measure => omega
            case rel => exact ⟨NodeD.mk 8 x.1 [] 0 [n] (placeP en s'), _, 1, s5, by omega, Lib.hid ((R8.out).drop (by intro x hx; simp only [List.mem_singleton] at hx; subst hx; exact .head _)), HR5⟩
        | false =>
          rw [if_neg (by rw [ha]; decide)] at hr
          have HA := Lib.hid ha
          clear ha
          go_wp2_with fail
          refine (R3.out.mayNR (b := ⟨#[46]⟩) rfl HA.out).mono ?_
          rintro e w4 ⟨rfl, R4⟩
          clear HA
          cases ha : aheadP s' 0 [91] with
          | true =>
            rw [if_pos ha] at hr
            have HA := Lib.hid ha
            have HR1 := Lib.hid hr
            clear ha hr
            go_wp2_with fail
            refine (R4.out.mayY (b := ⟨#[91]⟩) rfl HA.out).mono ?_
            rintro e w5 ⟨rfl, R5⟩
            obtain ⟨n0, n1, n2, n3, n4, n5, nf, nl⟩ := (R5.out.six6 (.head _)).six
            go_wp2_with fail
            go_region_law (go_simp; go_at_call 172; go_loud (refine R5.out.drew.nt HR1.out (fun r1 h1 => (H k (by omega)).1 _ pB en _ r1 R5.out.drew.pat h1) trivial (fun fl w' e ht => by subst e; go_wp2_with fail; exact ⟨rfl, rfl, ht⟩) (fun a v s6 w6 hr6 hl6 R6 hv => ?_); obtain ⟨ka6, kc6, rfl⟩ := hv; obtain ⟨p0, p1, p2, p3, p4, p5, pf, pl⟩ := (R6.out.six6 (.head _)).six; have HR6 := Lib.hid hr6; clear hr6))
            all_goals
              have R7 := Lib.hid ((R6.out.lay (one_ne hne) (.int .i64 9) (.string ⟨#[]⟩) (.string ⟨#[]⟩) (.int .i64 0) (.slice (some ⟨w6.heap.size, 0, none⟩) 2 2) (.int .i64 (placeP en s'))).row2 (T := 79) (a := n) (a' := a) w6.heap.size (by simp [World.setCell]))
              go_wp2_with fail
              refine R7.out.must HR6.out (by simp [World.setCell]) rfl (fun fl w' e ht => ?_) (fun s8 w8 hr8 hl8 R8 => ?_)
              · subst e; go_wp2_with fail; exact ⟨rfl, rfl, ht⟩
              have HR8 := Lib.hid hr8
              clear hr8
              go_wp2_with fail
              go_roundg k
              case measure => omega
              case rel => exact ⟨NodeD.mk 9 [] [] 0 [n, a] (placeP en s'), _, 2, s8, by omega, Lib.hid ((R8.out).drop (by intro x hx; simp only [List.mem_singleton] at hx; subst hx; exact .head _)), HR8⟩
          | false =>
            rw [if_neg (by rw [ha]; decide)] at hr
            have HA := Lib.hid ha
            clear ha
            go_wp2_with fail
            refine (R4.out.mayNR (b := ⟨#[91]⟩) rfl HA.out).mono ?_
            rintro e w5 ⟨rfl, R5⟩
            clear HA
            cases ha : aheadP s' 0 [105, 115] with
            | true =>
              rw [if_pos ha] at hr
              have HA := Lib.hid ha
              have HR1 := Lib.hid hr
              clear ha hr
              go_wp2_with fail
              refine (R5.out.mayY (b := ⟨#[105, 115]⟩) rfl HA.out).mono ?_
              rintro e w6 ⟨rfl, R6⟩
              obtain ⟨n0, n1, n2, n3, n4, n5, nf, nl⟩ := (R6.out.six6 (.head _)).six
              have Rrow := Lib.hid (R6.out.drew.row1 (T := 79) (a := n) w6.heap.size rfl)
              go_wp2_with fail
              go_region_law (go_simp; go_at_call 137; go_loud ((first | (refine Rrow.out.part HR1.out (fun fl w' e ht => by subst e; go_wp2_with fail; exact ⟨rfl, rfl, ht⟩) (fun d s6 w7 hr6 hl6 R7 => ?_); have hA : Hid True := Lib.hid trivial) | (refine R6.out.drew.part HR1.out (fun fl w' e ht => by subst e; go_wp2_with fail; exact ⟨rfl, rfl, ht⟩) (fun d s6 w7 hr6 hl6 R7 => ?_))); obtain ⟨p0, p1, p2, p3, p4, p5, pf, pl⟩ := (R7.out.six6 (.head _)).six; have HR6 := Lib.hid hr6; clear hr6))
              all_goals
                first
                  | clear hA
                    have R9 := Lib.hid (R7.out.lay (one_ne hne) (.int .i64 18) (.string ⟨#[]⟩) (.string (mkB d)) (.int .i64 0) (.slice (some ⟨w6.heap.size, 0, none⟩) 1 1) (.int .i64 (placeP en s')))
                    go_wp2_with fail
                    go_roundg k
                    case measure => omega
                    case rel => exact ⟨NodeD.mk 18 [] d 0 [n] (placeP en s'), _, 1, s6, by omega, Lib.hid (R9.out.drop (by intro x hx; simp only [List.mem_singleton] at hx; subst hx; exact .head _)), HR6⟩
                  | have R9 := Lib.hid ((R7.out.lay (one_ne hne) (.int .i64 18) (.string ⟨#[]⟩) (.string (mkB d)) (.int .i64 0) (.slice (some ⟨w7.heap.size, 0, none⟩) 1 1) (.int .i64 (placeP en s'))).row1 (T := 79) (a := n) w7.heap.size (by simp [World.setCell]))
                    go_wp2_with fail
                    go_roundg k
                    case measure => omega
                    case rel => exact ⟨NodeD.mk 18 [] d 0 [n] (placeP en s'), _, 1, s6, by omega, Lib.hid (R9.out.drop (by intro x hx; simp only [List.mem_singleton] at hx; subst hx; exact .head _)), HR6⟩
            | false =>
              rw [if_neg (by rw [ha]; decide)] at hr
              have HA := Lib.hid ha
              clear ha
              go_wp2_with fail
              refine (R5.out.mayNR (b := ⟨#[105, 115]⟩) rfl HA.out).mono ?_
              rintro e w6 ⟨rfl, R6⟩
              clear HA
              cases ha : aheadP s' 0 [97, 115] with
              | true =>
                rw [if_pos ha] at hr
                have HA := Lib.hid ha
                have HR1 := Lib.hid hr
                clear ha hr
                go_wp2_with fail
                refine (R6.out.mayY (b := ⟨#[97, 115]⟩) rfl HA.out).mono ?_
                rintro e w7 ⟨rfl, R7⟩
                obtain ⟨n0, n1, n2, n3, n4, n5, nf, nl⟩ := (R7.out.six6 (.head _)).six
                have Rrow := Lib.hid (R7.out.drew.row1 (T := 79) (a := n) w7.heap.size rfl)
                go_wp2_with fail
                go_region_law (go_simp; go_at_call 137; go_loud ((first | (refine Rrow.out.part HR1.out (fun fl w' e ht => by subst e; go_wp2_with fail; exact ⟨rfl, rfl, ht⟩) (fun d s6 w8 hr6 hl6 R8 => ?_); have hA : Hid True := Lib.hid trivial) | (refine R7.out.drew.part HR1.out (fun fl w' e ht => by subst e; go_wp2_with fail; exact ⟨rfl, rfl, ht⟩) (fun d s6 w8 hr6 hl6 R8 => ?_))); obtain ⟨p0, p1, p2, p3, p4, p5, pf, pl⟩ := (R8.out.six6 (.head _)).six; have HR6 := Lib.hid hr6; clear hr6))
                all_goals
                  first
                    | clear hA
                      have R9 := Lib.hid (R8.out.lay (one_ne hne) (.int .i64 19) (.string ⟨#[]⟩) (.string (mkB d)) (.int .i64 0) (.slice (some ⟨w7.heap.size, 0, none⟩) 1 1) (.int .i64 (placeP en s')))
                      go_wp2_with fail
                      go_roundg k
                      case measure => omega
                      case rel => exact ⟨NodeD.mk 19 [] d 0 [n] (placeP en s'), _, 1, s6, by omega, Lib.hid (R9.out.drop (by intro x hx; simp only [List.mem_singleton] at hx; subst hx; exact .head _)), HR6⟩
                    | have R9 := Lib.hid ((R8.out.lay (one_ne hne) (.int .i64 19) (.string ⟨#[]⟩) (.string (mkB d)) (.int .i64 0) (.slice (some ⟨w8.heap.size, 0, none⟩) 1 1) (.int .i64 (placeP en s'))).row1 (T := 79) (a := n) w8.heap.size (by simp [World.setCell]))
                      go_wp2_with fail
                      go_roundg k
                      case measure => omega
                      case rel => exact ⟨NodeD.mk 19 [] d 0 [n] (placeP en s'), _, 1, s6, by omega, Lib.hid (R9.out.drop (by intro x hx; simp only [List.mem_singleton] at hx; subst hx; exact .head _)), HR6⟩
              | false =>
                rw [if_neg (by rw [ha]; decide)] at hr
                have HA := Lib.hid ha
                clear ha
                go_wp2_with fail
                refine (R6.out.mayNR (b := ⟨#[97, 115]⟩) rfl HA.out).mono ?_
                rintro e w7 ⟨rfl, R7⟩
                clear HA
                obtain rfl : r = .ok (n, s') := by simpa using hr.symm
                obtain ⟨n0, n1, n2, n3, n4, n5, nf, nl⟩ := (R7.out.six6 (.head _)).six
                obtain ⟨r0, r1, r2, r3, r4, r5, rf, rl⟩ := (R7.out.six6 (.tail _ (.head _))).six
                clear hr
                go_wp2_with fail
                exact R7.out.fin n _ rfl rfl rfl (.tail _ (.head _)) (.head _)
end Go.Proofs.YtcaigcmbgihhkaaGreatDoor
