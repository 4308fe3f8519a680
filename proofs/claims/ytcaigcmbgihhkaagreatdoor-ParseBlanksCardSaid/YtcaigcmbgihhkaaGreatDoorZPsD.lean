/-
  Part of a proof: PsD.
-/
import Derived.Test.YtcaigcmbgihhkaaGreatDoorZParAE
namespace Go.Proofs.YtcaigcmbgihhkaaGreatDoor
open Go Go.RowKit
set_option linter.unusedVariables false
set_option linter.unusedSimpArgs false
mutual
def cntN : NodeD → Nat
  | .mk _ _ _ _ k _ => 1 + cntL k
def cntL : List NodeD → Nat
  | [] => 0
  | a :: r => cntN a + cntL r
end
theorem cntL_app : ∀ a b, cntL (a ++ b) = cntL a + cntL b
  | [], b => by simp [cntL]
  | x :: r, b => by simp [cntL, cntL_app r b]; omega
theorem cntN_pos : ∀ n, 0 < cntN n
  | .mk _ _ _ _ k _ => by simp [cntN]; omega
theorem cntL_len : ∀ l, l.length ≤ cntL l
  | [] => by simp
  | a :: r => by have := cntN_pos a; have := cntL_len r; simp [cntL]; omega
theorem cntL_mem : ∀ {l a}, a ∈ l → cntN a ≤ cntL l
  | b :: r, a, h => by
    rcases List.mem_cons.1 h with rfl | h
    · simp [cntL]
    · have := cntL_mem h; simp [cntL]; omega
theorem cntN_kids (n : NodeD) : cntN n = 1 + cntL n.kids := by cases n; simp [cntN, NodeD.kids]
def CN {α : Type} (mu : α → Nat) (c : Nat) (m : PM α) : Prop := ∀ s a s', m s = some (.ok (a, s')) → mu a + s'.ws.length ≤ s.ws.length + c
theorem CN.pure {α : Type} {mu : α → Nat} {c : Nat} {a : α} (h : mu a ≤ c) : CN mu c (PM.pure a) := fun s b s' e => by
  simp only [PM.pure, Option.some.injEq, Except.ok.injEq, Prod.mk.injEq] at e
  obtain ⟨rfl, rfl⟩ := e
  omega
theorem CN.fail {α : Type} {mu : α → Nat} {c : Nat} (p w : Int) : CN mu c (PM.fail p w : PM α) := fun s b s' h => by simp [PM.fail] at h
theorem CN.bind {α β : Type} {mu : α → Nat} {nu : β → Nat} {c d : Nat} {m : PM α} {f : α → PM β} (hm : CN mu c m) (hf : ∀ a, CN nu (d + mu a) (f a)) : CN nu (c + d) (PM.bind m f) := fun s b s' h => by
  rcases PM.bind_cases h with ⟨e, _, he⟩ | ⟨a, s1, h1, h2⟩
  · cases he
  · have := hm s a s1 h1
    have := hf a s1 b s' h2
    omega
theorem CN.le {α : Type} {mu : α → Nat} {c d : Nat} {m : PM α} (h : CN mu c m) (hcd : c ≤ d) : CN mu d m := fun s a s' e => by have := h s a s' e; omega
theorem CN.mn {α : Type} {m : PM α} (h : Mn m) : CN (fun _ => 0) 0 m := fun s a s' e => by have := h.len e; dsimp only; omega
theorem CN.ln {α : Type} {m : PM α} (h : Ln m) : CN (fun _ => 1) 0 m := fun s a s' e => by have := h s a s' e; dsimp only; omega
theorem CN.go {α : Type} {mu : α → Nat} {c : Nat} {m : PM α} (h : CN mu c m) {s s' : PSt} {a : α} (e : m s = some (.ok (a, s'))) : mu a + s'.ws.length ≤ s.ws.length + c := h s a s' e
theorem cn_next {s : PSt} {t : Bs} (h : aheadP s 0 t = true) : (nextP s).ws.length + 1 ≤ s.ws.length := ahead_lt h
theorem cn_nextW {s : PSt} {x : WordD} {v : List WordD} (h : s.ws = x :: v) : (nextP s).ws.length + 1 = s.ws.length := by simp [nextP, h]
theorem cn_down (en : Int) {mu : NodeD → Nat} {c : Nat} {m : PM NodeD} (h : CN mu c m) : CN mu c (downP en m) := fun s a s' e => by
  unfold downP at e
  split at e
  · simp [PM.fail] at e
  · rcases PM.bind_cases e with ⟨_, _, he⟩ | ⟨b, s1, h1, h2⟩
    · cases he
    · have := h _ b s1 h1
      simp only [Option.some.injEq, Except.ok.injEq, Prod.mk.injEq] at h2
      obtain ⟨rfl, rfl⟩ := h2
      exact this
def ntC : NT → Nat
  | .loop a _ => cntL a
  | .ranks _ n => cntN n
  | .list a => cntL a
  | .posts n => cntN n
  | _ => 0
theorem cn_run (en : Int) : ∀ m nt, CN cntN (ntC nt) (runP en m nt)
  | 0, nt => fun s a s' h => by simp [runP] at h
  | m + 1, nt => by
    have R := fun nt => cn_run en m nt
    have M1 := fun t l => CN.ln (ln_must en t l)
    have M0 := fun l => CN.mn (mn_must en l)
    have N1 := CN.ln (ln_name en)
    have P0 := CN.mn (mn_part en)
    have W0 := CN.mn (mn_whole en)
    have c0 : ∀ {o t y n p}, cntN (.mk o t y n [] p) = 1 := fun {o t y n p} => by simp [cntN, cntL]
    have c1 : ∀ {o t y n a p}, cntN (.mk o t y n [a] p) = 1 + cntN a := fun {o t y n a p} => by simp [cntN, cntL]
    have c2 : ∀ {o t y n a b p}, cntN (.mk o t y n [a, b] p) = 1 + cntN a + cntN b := fun {o t y n a b p} => by simp [cntN, cntL]; omega
    have c3 : ∀ {o t y n a b c p}, cntN (.mk o t y n [a, b, c] p) = 1 + cntN a + cntN b + cntN c := fun {o t y n a b c p} => by simp [cntN, cntL]; omega
    cases nt with
    | block =>
      refine cn_down en (fun s a s' e => ?_)
      have := (CN.bind (nu := cntN) (d := 0) (CN.mn (mn_must en [[123]])) (fun _ => (R (.loop [] (placeP en s))))).go e
      simpa [ntC, cntL] using this
    | loop acc p =>
      intro s a s' e
      rw [runP] at e
      dsimp only at e
      split at e
      · rename_i h
        simp only [Option.some.injEq, Except.ok.injEq, Prod.mk.injEq] at e
        obtain ⟨rfl, rfl⟩ := e
        have := cn_next h
        simp only [cntN, ntC]
        omega
      · have := (CN.bind (nu := cntN) (d := cntL acc) (R .stmt) (fun n => (R (.loop (acc ++ [n]) p)).le (by simp [ntC, cntL_app, cntL]))).go e
        simpa [ntC] using this
    | round =>
      have := CN.bind (nu := cntN) (d := 0) (M0 [[40]]) fun _ => CN.bind (nu := cntN) (d := 0) (R .expr) fun n => CN.bind (nu := cntN) (d := cntN n) (M0 [[41]]) fun _ => CN.pure (mu := cntN) (a := n) (by omega)
      exact fun s a s' e => by have := (CN.bind (nu := cntN) (d := 0) (M0 [[40]]) fun _ => CN.bind (nu := cntN) (d := 0) (R .expr) fun n => (CN.bind (nu := cntN) (d := cntN n) (M0 [[41]]) fun _ => CN.pure (mu := cntN) (a := n) (by omega)).le (by omega)).go e; simpa [ntC] using this
    | stmt =>
      intro s a s' e
      rw [runP] at e
      dsimp only at e
      split at e
      · exact R .block s a s' e
      · split at e
        · simp [PM.fail] at e
        · rename_i x r hx
          have hn := cn_nextW hx
          split at e
          · split at e
            · have := (CN.bind (nu := cntN) (d := 1) (R .expr) fun n => (CN.bind (nu := cntN) (d := 1 + cntN n) (M0 [[59]]) fun _ => CN.pure (by rw [c1]; omega)).le (by omega)).go e
              simp only [ntC] at this ⊢; omega
            · split at e
              · have := (CN.bind (nu := cntN) (d := 1) (R .round) fun n => (CN.bind (nu := cntN) (d := 1 + cntN n) (R .block) fun b => CN.pure (by rw [c2]; omega)).le (by simp only [ntC]; omega)).go e
                simp only [ntC] at this ⊢; omega
              · split at e
                · rcases PM.bind_cases e with ⟨_, _, he⟩ | ⟨c, s1, h1, e2⟩
                  · cases he
                  rcases PM.bind_cases e2 with ⟨_, _, he⟩ | ⟨b, s2, h2, e3⟩
                  · cases he
                  have t1 := (R .round).go h1
                  have t2 := (R .block).go h2
                  simp only [ntC] at t1 t2 ⊢
                  split at e3
                  · rename_i hq
                    have t3 := cn_next hq
                    have := (CN.bind (nu := cntN) (d := 1 + cntN c + cntN b) (R .block) fun d => CN.pure (by rw [c3]; omega)).go e3
                    simp only [ntC] at this
                    omega
                  · simp only [Option.some.injEq, Except.ok.injEq, Prod.mk.injEq] at e3
                    obtain ⟨rfl, rfl⟩ := e3
                    rw [c2]
                    omega
                · split at e
                  · split at e
                    · have := (CN.bind (nu := cntN) (d := 1) (M0 [[59]]) fun _ => CN.pure (by rw [c0]; omega)).go e
                      simp only [ntC] at this ⊢; omega
                    · have := (CN.bind (nu := cntN) (d := 1) (R .expr) fun n => (CN.bind (nu := cntN) (d := 1 + cntN n) (M0 [[59]]) fun _ => CN.pure (by rw [c1]; omega)).le (by omega)).go e
                      simp only [ntC] at this ⊢; omega
                  · split at e
                    · have := (CN.bind (nu := cntN) (d := 1) W0 fun d => (CN.bind (nu := cntN) (d := 1) (CN.mn (mn_name en)) fun x => (CN.bind (nu := cntN) (d := 1) (M0 [[61]]) fun _ => (CN.bind (nu := cntN) (d := 1) (R .expr) fun n => (CN.bind (nu := cntN) (d := 1 + cntN n) (M0 [[59]]) fun _ => CN.pure (by rw [c1]; omega)).le (by omega)).le (by simp only [ntC]; omega)).le (by omega)).le (by omega)).go e
                      simp only [ntC] at this ⊢; omega
                    · split at e
                      · have := (R (.set x.at_)).go e
                        simp only [ntC] at this ⊢; omega
                      · split at e
                        · have := (CN.bind (nu := cntN) (d := 1) (R .block) fun b => (CN.bind (nu := cntN) (d := 1 + cntN b) (M0 _) fun _ => (CN.bind (nu := cntN) (d := 1 + cntN b) (CN.mn (mn_name en)) fun c => (CN.bind (nu := cntN) (d := 1 + cntN b) (CN.mn (mn_name en)) fun x => (CN.bind (nu := cntN) (d := 1 + cntN b) (M0 _) fun _ => (CN.bind (nu := cntN) (d := 1 + cntN b) (R .block) fun d => CN.pure (by rw [c2]; omega)).le (by simp only [ntC]; omega)).le (by omega)).le (by omega)).le (by omega)).le (by omega)).go e
                          simp only [ntC] at this ⊢; omega
                        · simp [PM.fail] at e
          · simp [PM.fail] at e
    | set p =>
      intro s a s' e
      have := (CN.bind (nu := cntN) (d := 0) (R .post) fun t => (CN.bind (nu := cntN) (d := cntN t) (M1 [61] []) fun _ => (CN.bind (nu := cntN) (d := 1 + cntN t) (R .expr) fun n => (CN.bind (nu := cntN) (d := 1 + cntN t + cntN n) (M0 [[59]]) fun _ => (fun s b s' e => by
          skip
          split at e
          · simp only [Option.some.injEq, Except.ok.injEq, Prod.mk.injEq] at e
            obtain ⟨rfl, rfl⟩ := e
            rw [c2]; omega
          · simp [PM.fail] at e)).le (by omega)).le (by simp only [ntC]; omega)).le (by omega)).go e
      simpa [ntC] using this
    | expr => exact cn_down en (R (.rank 0))
    | rank k =>
      intro s a s' e
      rw [runP] at e
      skip
      split at e
      · exact R .un s a s' e
      · have := (CN.bind (nu := cntN) (d := 0) (R (.rank (k + 1))) fun n => (R (.ranks k n)).le (by simp [ntC])).go e
        simpa [ntC] using this
    | ranks k n =>
      intro s a s' e
      rw [runP] at e
      dsimp only at e
      split at e
      · simp only [Option.some.injEq, Except.ok.injEq, Prod.mk.injEq] at e
        obtain ⟨rfl, rfl⟩ := e
        simp only [ntC]; omega
      · rename_i t ht
        have hn := cn_next (s := s) (t := t) (by simpa using List.find?_some ht)
        have := (CN.bind (nu := cntN) (d := 1 + cntN n) (R (.rank (k + 1))) fun b => (by
          split
          · exact CN.pure (by rw [c2]; omega)
          · exact (R (.ranks k _)).le (by simp only [ntC]; rw [c2]; omega) : CN cntN (1 + cntN n + cntN b) _)).go e
        simp only [ntC] at this ⊢; omega
    | un =>
      refine cn_down en (fun s a s' e => ?_)
      split at e
      · rename_i h
        have hn := cn_next h
        have := (CN.bind (nu := cntN) (d := 1) (R .un) fun b => CN.pure (by rw [c1]; omega)).go e
        simp only [ntC] at this ⊢; omega
      · split at e
        · rename_i h
          have hn := cn_next h
          have := (CN.bind (nu := cntN) (d := 1) (R .un) fun b => CN.pure (by rw [c1]; omega)).go e
          simp only [ntC] at this ⊢; omega
        · exact R .post s a s' e
    | list acc =>
      intro s a s' e
      rw [runP] at e
      dsimp only at e
      split at e
      · rename_i h
        simp only [Option.some.injEq, Except.ok.injEq, Prod.mk.injEq] at e
        obtain ⟨rfl, rfl⟩ := e
        have := cn_next h
        simp only [cntN, ntC]
        omega
      · have hc : CN (fun _ => 0) 0 (if 1 < acc.length then mustP en [[44]] else PM.pure ()) := by
          split
          · exact M0 _
          · exact CN.pure (Nat.le_refl _)
        have := (CN.bind (nu := cntN) (d := cntL acc) hc fun _ => (CN.bind (nu := cntN) (d := cntL acc) (R .expr) fun n => (R (.list (acc ++ [n]))).le (by simp [ntC, cntL_app, cntL])).le (by simp only [ntC]; omega)).go e
        simpa [ntC] using this
    | post =>
      intro s a s' e
      have := (CN.bind (nu := cntN) (d := 0) (R .prim) fun n => (R (.posts n)).le (by simp [ntC])).go e
      simpa [ntC] using this
    | posts n =>
      intro s a s' e
      rw [runP] at e
      dsimp only at e
      split at e
      · rename_i h
        have hn := cn_next h
        rcases PM.bind_cases e with ⟨_, _, he⟩ | ⟨x, s1, h1, e2⟩
        · cases he
        have t1 := (CN.mn (mn_name en)).go h1
        simp only [ntC] at t1 ⊢
        split at e2
        · rename_i h3
          have t2 := cn_next h3
          have := (CN.bind (nu := cntN) (d := 0) (R (.list [n])) fun l => (R (.posts (.mk 10 x.1 [] 0 (kidsOf l) (placeP en s)))).le (by have := cntN_kids l; simp only [ntC, cntN, kidsOf]; omega)).go e2
          simp only [ntC, cntL] at this
          omega
        · have := (R (.posts (.mk 8 x.1 [] 0 [n] (placeP en s)))).go e2
          simp only [ntC, c1] at this
          omega
      · split at e
        · rename_i h
          have hn := cn_next h
          have := (CN.bind (nu := cntN) (d := 1 + cntN n) (R .expr) fun b => (CN.bind (nu := cntN) (d := 1 + cntN n + cntN b) (M0 [[93]]) fun _ => (R (.posts (.mk 9 [] [] 0 [n, b] (placeP en s)))).le (by simp only [ntC, c2]; omega)).le (by omega)).go e
          simp only [ntC] at this ⊢; omega
        · split at e
          · rename_i h
            have hn := cn_next h
            have := (CN.bind (nu := cntN) (d := 1 + cntN n) P0 fun d => (R (.posts (.mk 18 [] d 0 [n] (placeP en s)))).le (by simp only [ntC, c1]; omega)).go e
            simp only [ntC] at this ⊢; omega
          · split at e
            · rename_i h
              have hn := cn_next h
              have := (CN.bind (nu := cntN) (d := 1 + cntN n) P0 fun d => (R (.posts (.mk 19 [] d 0 [n] (placeP en s)))).le (by simp only [ntC, c1]; omega)).go e
              simp only [ntC] at this ⊢; omega
            · simp only [Option.some.injEq, Except.ok.injEq, Prod.mk.injEq] at e
              obtain ⟨rfl, rfl⟩ := e
              simp only [ntC]; omega
    | made p =>
      intro s a s' e
      rw [runP] at e
      dsimp only at e
      split at e
      · have := (CN.bind (nu := cntN) (d := 0) N1 fun x => (CN.bind (nu := cntN) (d := 1) (M0 _) fun _ => CN.pure (by rw [c0]; omega)).le (by omega)).go e
        simpa [ntC] using this
      · have := (CN.bind (nu := cntN) (d := 0) P0 fun d => (CN.bind (nu := cntN) (d := 0) (M1 [91] []) fun _ => (CN.bind (nu := cntN) (d := 1) (R .expr) fun n => (CN.bind (nu := cntN) (d := 1 + cntN n) (M0 _) fun _ => CN.pure (by rw [c1]; omega)).le (by omega)).le (by simp only [ntC]; omega)).le (by omega)).go e
        simpa [ntC] using this
    | prim =>
      intro s a s' e
      rw [runP] at e
      dsimp only at e
      split at e
      · simp [PM.fail] at e
      · rename_i x r hx
        have hn := cn_nextW hx
        simp only [ntC]
        split at e
        · simp only [Option.some.injEq, Except.ok.injEq, Prod.mk.injEq] at e
          obtain ⟨rfl, rfl⟩ := e
          rw [c0]; omega
        · split at e
          · simp only [Option.some.injEq, Except.ok.injEq, Prod.mk.injEq] at e
            obtain ⟨rfl, rfl⟩ := e
            rw [c0]; omega
          · split at e
            · simp only [Option.some.injEq, Except.ok.injEq, Prod.mk.injEq] at e
              obtain ⟨rfl, rfl⟩ := e
              rw [c0]; omega
            · split at e
              · have := (CN.bind (nu := cntN) (d := 0) (R .expr) fun n => (CN.bind (nu := cntN) (d := cntN n) (M0 [[41]]) fun _ => CN.pure (by omega)).le (by omega)).go e
                simp only [ntC] at this; omega
              · split at e
                · have := (CN.bind (nu := cntN) (d := 1) (M0 _) fun _ => CN.pure (by rw [c0]; omega)).go e
                  omega
                · split at e
                  · have := (CN.bind (nu := cntN) (d := 1) (R .round) fun b => CN.pure (by rw [c1]; omega)).go e
                    simp only [ntC] at this; omega
                  · split at e
                    · have := (R (.made (placeP en s))).go e
                      simp only [ntC] at this; omega
                    · split at e
                      · simp only [Option.some.injEq, Except.ok.injEq, Prod.mk.injEq] at e
                        obtain ⟨rfl, rfl⟩ := e
                        rw [c0]; omega
                      · simp [PM.fail] at e
end Go.Proofs.YtcaigcmbgihhkaaGreatDoor
