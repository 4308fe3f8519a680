/-
  Part of a proof: PsE.
-/
import Derived.Test.YtcaigcmbgihhkaaGreatDoorZPsD
import Derived.Test.YtcaigcmbgihhkaaGreatDoorZPsA
import Derived.Test.YtcaigcmbgihhkaaGreatDoorZTwo
namespace Go.Proofs.YtcaigcmbgihhkaaGreatDoor
open Go Go.RowKit
set_option linter.unusedVariables false
set_option linter.unusedSimpArgs false
def cntM (m : MethodD) : Nat := 1 + m.takes.length + cntN m.body
def cntMs : List MethodD → Nat
  | [] => 0
  | a :: r => cntM a + cntMs r
def cntC (c : ClassD) : Nat := 1 + c.fields.length + cntMs c.methods
def cntCs : List ClassD → Nat
  | [] => 0
  | a :: r => cntC a + cntCs r
theorem cntMs_snoc : ∀ l x, cntMs (l ++ [x]) = cntMs l + cntM x
  | [], x => by simp [cntMs]
  | a :: r, x => by simp [cntMs, cntMs_snoc r x]; omega
theorem cntCs_snoc : ∀ l x, cntCs (l ++ [x]) = cntCs l + cntC x
  | [], x => by simp [cntCs]
  | a :: r, x => by simp [cntCs, cntCs_snoc r x]; omega
theorem cntMs_len : ∀ l, l.length ≤ cntMs l
  | [] => by simp
  | a :: r => by have := cntMs_len r; simp [cntMs, cntM]; omega
theorem cntCs_len : ∀ l, l.length ≤ cntCs l
  | [] => by simp
  | a :: r => by have := cntCs_len r; simp [cntCs, cntC]; omega
theorem cntMs_mem : ∀ {l a}, a ∈ l → cntM a ≤ cntMs l
  | b :: r, a, h => by
    rcases List.mem_cons.1 h with rfl | h
    · simp [cntMs]
    · have := cntMs_mem h; simp [cntMs]; omega
theorem cntCs_mem : ∀ {l a}, a ∈ l → cntC a ≤ cntCs l
  | b :: r, a, h => by
    rcases List.mem_cons.1 h with rfl | h
    · simp [cntCs]
    · have := cntCs_mem h; simp [cntCs]; omega
theorem cn_param (en : Int) : CN (fun _ => 1) 0 (paramP en) := (CN.bind (nu := fun _ : ParamD => 1) (d := 0) (CN.mn (mn_whole en)) fun d => (CN.bind (nu := fun _ : ParamD => 1) (d := 0) (CN.ln (ln_name en)) fun x => CN.pure (Nat.le_refl _)).le (Nat.le_refl _)).le (Nat.le_refl _)
theorem cn_takes (en : Int) : ∀ k acc, CN List.length acc.length (takesP en k acc)
  | 0, acc => fun s a s' h => by simp [takesP] at h
  | k + 1, acc => fun s a s' e => by
    rw [takesP] at e
    dsimp only at e
    split at e
    · simp only [Option.some.injEq, Except.ok.injEq, Prod.mk.injEq] at e
      obtain ⟨rfl, rfl⟩ := e
      have := next_le s
      omega
    · have hc : CN (fun _ => 0) 0 (if 0 < acc.length then mustP en [[44]] else PM.pure ()) := by
        split
        · exact CN.mn (mn_must en _)
        · exact CN.pure (Nat.le_refl _)
      have := (CN.bind (nu := List.length) (d := acc.length) hc fun _ => (CN.bind (nu := List.length) (d := acc.length) (cn_param en) fun x => (cn_takes en k (acc ++ [x])).le (by simp)).le (by omega)).go e
      omega
theorem cn_method (en : Int) (k : Nat) : CN cntM 1 (methodP en k) := by
  unfold methodP
  refine (CN.bind (nu := cntM) (mu := fun _ => 0) (c := 0) (d := 1) (fun s a s' e => ?_) fun g => (CN.bind (nu := cntM) (d := 1) (CN.mn (mn_name en)) fun x => (CN.bind (nu := cntM) (d := 1) (CN.mn (mn_must en _)) fun _ => (CN.bind (nu := cntM) (d := 1) (cn_takes en k []) fun t => (CN.bind (nu := cntM) (d := 1 + t.length) (cn_run en k .block) fun b => CN.pure (by simp only [cntM]; omega)).le (by simp [ntC])).le (by simp)).le (by omega)).le (by omega)).le (by omega)
  split at e
  · simp only [Option.some.injEq, Except.ok.injEq, Prod.mk.injEq] at e
    obtain ⟨rfl, rfl⟩ := e
    have := next_le s
    simp only; omega
  · have := (CN.mn (mn_whole en)).go e
    simp only at this ⊢; omega
theorem cn_members (en : Int) (k : Nat) : ∀ m fs ms, CN (fun a : List ParamD × List MethodD => a.1.length + cntMs a.2) (fs.length + cntMs ms) (membersP en k m fs ms)
  | 0, fs, ms => fun s a s' h => by simp [membersP] at h
  | m + 1, fs, ms => fun s a s' e => by
    rw [membersP] at e
    dsimp only at e
    split at e
    · simp only [Option.some.injEq, Except.ok.injEq, Prod.mk.injEq] at e
      obtain ⟨rfl, rfl⟩ := e
      have := next_le s
      simp only; omega
    · split at e
      · have h0 := next_le s
        have := (CN.bind (nu := fun a : List ParamD × List MethodD => a.1.length + cntMs a.2) (d := fs.length + cntMs ms) (cn_param en) fun x => (CN.bind (nu := fun a : List ParamD × List MethodD => a.1.length + cntMs a.2) (d := fs.length + cntMs ms + 1) (CN.mn (mn_must en _)) fun _ => (cn_members en k m (fs ++ [x]) ms).le (by simp; omega)).le (by omega)).go e
        simp only at this ⊢; omega
      · have := (CN.bind (nu := fun a : List ParamD × List MethodD => a.1.length + cntMs a.2) (d := fs.length + cntMs ms) (CN.ln (ln_must en _ _)) fun _ => (CN.bind (nu := fun a : List ParamD × List MethodD => a.1.length + cntMs a.2) (d := fs.length + cntMs ms) (cn_method en k) fun x => (cn_members en k m fs (ms ++ [x])).le (by rw [cntMs_snoc]; omega)).le (by omega)).go e
        simp only at this ⊢; omega
theorem cn_class (en : Int) (k : Nat) : CN cntC 0 (classP en k) := by
  unfold classP
  refine (CN.bind (nu := cntC) (d := 0) (CN.ln (ln_must en _ _)) fun _ => (CN.bind (nu := cntC) (d := 1) (CN.mn (mn_name en)) fun x => (CN.bind (nu := cntC) (d := 1) (CN.mn (mn_super en)) fun u => (CN.bind (nu := cntC) (d := 1) (CN.mn (mn_must en _)) fun _ => (CN.bind (nu := cntC) (d := 1) (cn_members en k k [] []) fun m => CN.pure (by simp only [cntC]; omega)).le (by simp [cntMs])).le (by omega)).le (by omega)).le (by omega)).le (by omega)
theorem cn_classes (en : Int) (k : Nat) : ∀ m acc, CN cntCs (cntCs acc) (classesP en k m acc)
  | 0, acc => fun s a s' h => by simp [classesP] at h
  | m + 1, acc => fun s a s' e => by
    rw [classesP] at e
    dsimp only at e
    split at e
    · simp only [Option.some.injEq, Except.ok.injEq, Prod.mk.injEq] at e
      obtain ⟨rfl, rfl⟩ := e
      omega
    · have := (CN.bind (nu := cntCs) (d := cntCs acc) (cn_class en k) fun c => (cn_classes en k m (acc ++ [c])).le (by rw [cntCs_snoc]; exact Nat.le_refl _)).go e
      omega
theorem parse_few {src : Bs} {l : List ClassD} (h : parseL src = .ok l) : cntCs l ≤ 16384 := by
  obtain ⟨r, e, p⟩ := parseL_ok (parseL_lex h)
  rw [h] at p
  rcases r with f | ⟨l', s'⟩
  · cases p
  · simp only [Except.ok.injEq] at p
    subst p
    have := (cn_classes _ _ _ _).go e
    have h2 := lexL_len src
    simp only [cntCs] at this
    omega
end Go.Proofs.YtcaigcmbgihhkaaGreatDoor
