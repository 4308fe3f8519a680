/-
  Part of a proof: PsA, PsB.
-/
import Derived.Test.YtcaigcmbgihhkaaGreatDoorZParA
import Derived.Test.YtcaigcmbgihhkaaGreatDoorZTwo
import Derived.Test.YtcaigcmbgihhkaaGreatDoorZParAE
namespace Go.Proofs.YtcaigcmbgihhkaaGreatDoor
open Go Go.RowKit
set_option linter.unusedVariables false
set_option linter.unusedSimpArgs false
mutual
def bare : NodeD → NodeD
  | .mk o t y n k _ => .mk o t y n (bares k) 0
def bares : List NodeD → List NodeD
  | [] => []
  | a :: r => bare a :: bares r
end
theorem bares_app : ∀ a b, bares (a ++ b) = bares a ++ bares b
  | [], b => by simp [bares]
  | x :: r, b => by simp [bares, bares_app r b]
theorem bares_map : ∀ a, bares a = a.map bare
  | [] => by simp [bares]
  | x :: r => by simp [bares, bares_map r]
theorem bares_len {a b : List NodeD} (h : bares b = bares a) : b.length = a.length := by
  rw [bares_map, bares_map] at h
  simpa using congrArg List.length h
theorem bare_op {a b : NodeD} (h : bare b = bare a) : b.op = a.op := by
  cases a; cases b; simp only [bare, NodeD.mk.injEq] at h; exact h.1
theorem bare_kids {a b : NodeD} (h : bare b = bare a) : bares (kidsOf b) = bares (kidsOf a) := by
  cases a; cases b; simp only [bare, NodeD.mk.injEq] at h; exact h.2.2.2.2.1
def classK : Bs := [99, 108, 97, 115, 115]
def EndL (T : List WordD) : Prop := T = [] ∨ ∃ x r, T = x :: r ∧ (x.kind = 5 ∨ x.kind = 4) ∧ x.text = classK
structure Rel (T T' : List WordD) (s s' : PSt) : Prop where
  ends : EndL T
  ends' : EndL T'
  deep : s'.deep = s.deep
  ws : ∃ u u', s.ws = u ++ T ∧ s'.ws = u' ++ T' ∧ u'.map strip = u.map strip
def RSr {α β : Type} (T T' : List WordD) (A : α → β → Prop) (x : Option (Except Fault (α × PSt))) (y : Option (Except Fault (β × PSt))) : Prop :=
  match x, y with
  | none, _ => True
  | some (.error e), some (.error e') => e'.2 = e.2
  | some (.ok (a, s)), some (.ok (b, s')) => A a b ∧ Rel T T' s s'
  | _, _ => False
def RS {α β : Type} (T T' : List WordD) (A : α → β → Prop) (m : PM α) (m' : PM β) : Prop := ∀ s s', Rel T T' s s' → RSr T T' A (m s) (m' s')
abbrev NodeR (a b : NodeD) : Prop := bare b = bare a
section
variable {T T' : List WordD}
theorem RS.pure {α β : Type} {A : α → β → Prop} {a : α} {b : β} (h : A a b) : RS T T' A (PM.pure a) (PM.pure b) := fun s s' r => ⟨h, r⟩
theorem RS.fail {α β : Type} {A : α → β → Prop} (p p' w : Int) : RS T T' A (PM.fail p w) (PM.fail p' w) := fun s s' r => rfl
theorem RS.bind {α β γ δ : Type} {A : α → β → Prop} {B : γ → δ → Prop} {m : PM α} {m' : PM β} {f : α → PM γ} {f' : β → PM δ} (h : RS T T' A m m') (k : ∀ a b, A a b → RS T T' B (f a) (f' b)) : RS T T' B (PM.bind m f) (PM.bind m' f') := by
  intro s s' r
  have h := h s s' r
  unfold PM.bind
  revert h
  generalize m s = x
  generalize m' s' = y
  intro h
  rcases x with _ | (e | ⟨a, t⟩) <;> rcases y with _ | (e' | ⟨b, t'⟩) <;> (first | exact trivial | exact absurd h id | exact h | exact k a b h.1 t t' h.2)
theorem rsr_fail {α β : Type} {A : α → β → Prop} (p p' w : Int) (s s' : PSt) : RSr T T' A (PM.fail p w s) (PM.fail p' w s') := rfl
theorem rs_ite {α β : Type} {A : α → β → Prop} {c c' : Bool} {a b : Option (Except Fault (α × PSt))} {a' b' : Option (Except Fault (β × PSt))} (h : c' = c) (x : c = true → RSr T T' A a a') (y : c = false → RSr T T' A b b') : RSr T T' A (if c = true then a else b) (if c' = true then a' else b') := by
  rw [h]
  cases hc : c
  · exact y hc
  · exact x hc
theorem rs_iteP {α β : Type} {A : α → β → Prop} {p p' : Prop} [Decidable p] [Decidable p'] {a b : Option (Except Fault (α × PSt))} {a' b' : Option (Except Fault (β × PSt))} (h : p' ↔ p) (x : p → RSr T T' A a a') (y : ¬ p → RSr T T' A b b') : RSr T T' A (if p then a else b) (if p' then a' else b') := by
  by_cases hp : p
  · rw [if_pos hp, if_pos (h.2 hp)]; exact x hp
  · rw [if_neg hp, if_neg (fun q => hp (h.1 q))]; exact y hp
theorem RSr.imp {α β : Type} {A B : α → β → Prop} (h : ∀ a b, A a b → B a b) {x : Option (Except Fault (α × PSt))} {y : Option (Except Fault (β × PSt))} (k : RSr T T' A x y) : RSr T T' B x y := by
  rcases x with _ | (e | ⟨a, t⟩) <;> rcases y with _ | (e' | ⟨b, t'⟩) <;> (first | exact trivial | exact absurd k id | exact k | exact ⟨h _ _ k.1, k.2⟩)
theorem Rel.cases {s s' : PSt} (r : Rel T T' s s') : (s.ws = T ∧ s'.ws = T') ∨ ∃ x x' v v', s.ws = x :: (v ++ T) ∧ s'.ws = x' :: (v' ++ T') ∧ x'.kind = x.kind ∧ x'.text = x.text ∧ x'.n = x.n ∧ v'.map strip = v.map strip := by
  obtain ⟨_, _, _, u, u', h1, h2, h3⟩ := r
  cases u with
  | nil =>
    cases u' with
    | nil => exact .inl ⟨h1, h2⟩
    | cons y v => simp at h3
  | cons x v =>
    cases u' with
    | nil => simp at h3
    | cons y v' =>
      simp only [List.map_cons, List.cons.injEq, strip, Prod.mk.injEq] at h3
      exact .inr ⟨x, y, v, v', h1, h2, h3.1.1, h3.1.2.1, h3.1.2.2, h3.2⟩
theorem EndL.ahead {s : PSt} (h : EndL s.ws) {t : Bs} (ht : t ≠ classK) : aheadP s 0 t = false := by
  rcases h with h | ⟨x, r, h, hk, hx⟩
  · simp [aheadP, h]
  · have : (x.text == t) = false := by rw [hx]; exact beq_eq_false_iff_ne.2 (Ne.symm ht)
    simp [aheadP, h, this]
theorem EndL.kind {s : PSt} (h : EndL s.ws) {k : Int} (ht : k < 4) : kindP s k = false := by
  rcases h with h | ⟨x, r, h, hk, hx⟩
  · simp [kindP, h]
  · rcases hk with hk | hk <;> simp [kindP, h, hk] <;> omega
theorem Rel.ahead {s s' : PSt} (r : Rel T T' s s') {t : Bs} (ht : t ≠ classK) : aheadP s' 0 t = aheadP s 0 t := by
  rcases r.cases with ⟨h, h'⟩ | ⟨x, x', v, v', h, h', k1, k2, _⟩
  · rw [EndL.ahead (by rw [h']; exact r.ends') ht, EndL.ahead (by rw [h]; exact r.ends) ht]
  · simp [aheadP, h, h', k1, k2]
theorem Rel.kind {s s' : PSt} (r : Rel T T' s s') {k : Int} (ht : k < 4) : kindP s' k = kindP s k := by
  rcases r.cases with ⟨h, h'⟩ | ⟨x, x', v, v', h, h', k1, k2, _⟩
  · rw [EndL.kind (by rw [h']; exact r.ends') ht, EndL.kind (by rw [h]; exact r.ends) ht]
  · simp [kindP, h, h', k1, k2]
theorem Rel.next {s s' : PSt} (r : Rel T T' s s') (h : ¬ (s.ws = T ∧ s'.ws = T')) : Rel T T' (nextP s) (nextP s') := by
  rcases r.cases with h1 | ⟨x, x', v, v', h, h', k1, k2, k3, k4⟩
  · exact absurd h1 h
  · exact ⟨r.ends, r.ends', r.deep, v, v', by simp [nextP, h], by simp [nextP, h'], k4⟩
theorem Rel.nextA {s s' : PSt} (r : Rel T T' s s') {t : Bs} (ht : t ≠ classK) (h : aheadP s 0 t = true) : Rel T T' (nextP s) (nextP s') := r.next fun ⟨h1, _⟩ => by
  rw [EndL.ahead (by rw [h1]; exact r.ends) ht] at h
  cases h
theorem Rel.nextK {s s' : PSt} (r : Rel T T' s s') {k : Int} (ht : k < 4) (h : kindP s k = true) : Rel T T' (nextP s) (nextP s') := r.next fun ⟨h1, _⟩ => by
  rw [EndL.kind (by rw [h1]; exact r.ends) ht] at h
  cases h
theorem ahead_next (s : PSt) (t : Bs) : aheadP s 1 t = aheadP (nextP s) 0 t := by
  unfold aheadP nextP
  cases s.ws with
  | nil => rfl
  | cons x r => cases r <;> rfl
theorem Rel.two {s s' : PSt} (r : Rel T T' s s') {t t2 : Bs} (ht : t ≠ classK) (ht2 : t2 ≠ classK) : (aheadP s' 0 t && aheadP s' 1 t2) = (aheadP s 0 t && aheadP s 1 t2) := by
  rw [r.ahead ht]
  cases h : aheadP s 0 t with
  | false => rfl
  | true => rw [ahead_next, ahead_next, (r.nextA ht h).ahead ht2]
theorem Rel.kindTwo {s s' : PSt} (r : Rel T T' s s') {k : Int} {t2 : Bs} (ht : k < 4) (ht2 : t2 ≠ classK) : (kindP s' k && aheadP s' 1 t2) = (kindP s k && aheadP s 1 t2) := by
  rw [r.kind ht]
  cases h : kindP s k with
  | false => rfl
  | true => rw [ahead_next, ahead_next, (r.nextK ht h).ahead ht2]
theorem rs_must (en en' : Int) : ∀ l : List Bs, (∀ t ∈ l, t ≠ classK) → RS T T' Eq (mustP en l) (mustP en' l)
  | [], _ => RS.pure rfl
  | t :: l, h => fun s s' r => by
    have ht := h t (by simp)
    rw [mustP, mustP]
    exact rs_ite (r.ahead ht) (fun q => rs_must en en' l (fun x hx => h x (by simp [hx])) _ _ (r.nextA ht q)) (fun _ => rsr_fail _ _ _ _ _)
theorem rs_name (en en' : Int) : RS T T' (fun x y => y.1 = x.1) (nameP en) (nameP en') := fun s s' r => by
  rcases r.cases with ⟨h, h'⟩ | ⟨x, x', v, v', h, h', k1, k2, k3, k4⟩
  · have e : ∀ (s : PSt) (en : Int), EndL s.ws → ∃ p, nameP en s = some (.error (p, 18)) := fun s en h => by
      rcases h with h | ⟨x, r, h, hk, hx⟩
      · exact ⟨_, by simp only [nameP, h]; rfl⟩
      · rcases hk with hk | hk <;> exact ⟨_, by simp only [nameP, h, hk]; rfl⟩
    obtain ⟨p, hp⟩ := e s en (by rw [h]; exact r.ends)
    obtain ⟨p', hp'⟩ := e s' en' (by rw [h']; exact r.ends')
    rw [hp, hp']
    exact rfl
  · simp only [nameP, h, h', k1, k2]
    exact rs_iteP Iff.rfl (fun _ => ⟨rfl, r.ends, r.ends', r.deep, v, v', rfl, rfl, k4⟩) (fun _ => rsr_fail _ _ _ _ _)
theorem rs_brackets (en en' : Int) : ∀ k k' d s s', Rel T T' s s' → s'.ws.length < k' → RSr T T' Eq (bracketsP en k d s) (bracketsP en' k' d s')
  | 0, k', d, s, s', r, h => trivial
  | k + 1, 0, d, s, s', r, h => absurd h (by omega)
  | k + 1, k' + 1, d, s, s', r, h => by
    rw [bracketsP, bracketsP]
    refine rs_ite (r.two (by decide) (by decide)) (fun q => ?_) (fun _ => ⟨rfl, r⟩)
    rw [Bool.and_eq_true] at q
    have r1 := r.nextA (by decide) q.1
    rw [ahead_next] at q
    have r2 := r1.nextA (by decide) q.2
    refine rs_ite rfl (fun _ => rs_brackets en en' k k' _ _ _ r2 ?_) (fun _ => rsr_fail _ _ _ _ _)
    have := ahead_lt (s := s') (t := [91]) (by rw [r.ahead (by decide)]; exact q.1)
    have := next_le (nextP s')
    omega
theorem rs_base (en en' : Int) : RS T T' Eq (baseP en) (baseP en') := fun s s' r => by
  unfold baseP
  refine rs_ite (r.ahead (by decide)) (fun q => ⟨rfl, r.nextA (by decide) q⟩) (fun _ => ?_)
  refine rs_ite (r.ahead (by decide)) (fun q => ⟨rfl, r.nextA (by decide) q⟩) (fun _ => ?_)
  refine rs_ite (r.ahead (by decide)) (fun q => ⟨rfl, r.nextA (by decide) q⟩) (fun _ => ?_)
  exact RS.bind (rs_name en en') (fun a b h => RS.pure (by rw [h])) s s' r
theorem rs_part (en en' : Int) : RS T T' Eq (partP en) (partP en') := RS.bind (rs_base en en') fun a b h s s' r => by
  subst h
  exact rs_brackets en en' _ _ _ _ _ r (by omega)
theorem rs_whole (en en' : Int) : RS T T' Eq (wholeP en) (wholeP en') := RS.bind (rs_part en en') fun a b h s s' r => by
  subst h
  exact rs_ite (r.ahead (by decide)) (fun _ => rsr_fail _ _ _ _ _) (fun _ => ⟨rfl, r⟩)
theorem rs_down (en en' : Int) {m m' : PM NodeD} (h : RS T T' NodeR m m') : RS T T' NodeR (downP en m) (downP en' m') := fun s s' r => by
  unfold downP
  refine rs_iteP (by rw [r.deep]) (fun _ => rsr_fail _ _ _ _ _) (fun _ => ?_)
  refine RS.bind (B := NodeR) (f := fun n s' => some (.ok (n, ⟨s'.ws, s'.deep - 1⟩))) (f' := fun n s' => some (.ok (n, ⟨s'.ws, s'.deep - 1⟩))) h (fun a b hab t t' rt => ⟨hab, rt.ends, rt.ends', ?_, rt.ws⟩) _ _ ⟨r.ends, r.ends', ?_, r.ws⟩
  · show t'.deep - 1 = t.deep - 1
    rw [rt.deep]
  · show s'.deep + 1 = s.deep + 1
    rw [r.deep]
def ntR : NT → NT → Prop
  | .block, .block => True
  | .loop a _, .loop b _ => bares b = bares a
  | .round, .round => True
  | .stmt, .stmt => True
  | .set _, .set _ => True
  | .expr, .expr => True
  | .rank k, .rank k' => k' = k
  | .ranks k n, .ranks k' n' => k' = k ∧ bare n' = bare n
  | .un, .un => True
  | .list a, .list b => bares b = bares a
  | .post, .post => True
  | .posts n, .posts n' => bare n' = bare n
  | .made _, .made _ => True
  | .prim, .prim => True
  | _, _ => False
theorem stmt_end (en : Int) (m : Nat) (s : PSt) (h : EndL s.ws) : ∃ p, runP en (m + 1) .stmt s = some (.error (p, 18)) := by
  have h0 := fun t (ht : t ≠ classK) => EndL.ahead h ht
  rw [runP]
  simp only [h0 [123] (by decide), h0 [105, 102] (by decide), h0 [114, 101, 116, 117, 114, 110] (by decide), h0 [118, 97, 114] (by decide), h0 [115, 101, 116] (by decide), h0 [116, 114, 121] (by decide), Bool.false_eq_true, if_false]
  rcases h with h | ⟨x, r, h, hk, hx⟩
  · exact ⟨placeP en s, by simp only [h]; rfl⟩
  · rcases hk with hk | hk
    rotate_left
    · exact ⟨placeP en s, by simp only [h, hk, show ¬ ((4 : Int) = 5) from by decide, if_false]; rfl⟩
    refine ⟨x.at_, ?_⟩
    simp only [h, hk, hx, show lookL plainsL classK = 0 from by decide, show lookL headsL classK = 0 from by decide, if_true, Int.lt_irrefl, if_false]
    rfl
theorem prim_end (en : Int) (m : Nat) (s : PSt) (h : EndL s.ws) : ∃ p, runP en (m + 1) .prim s = some (.error (p, 18)) := by
  have h0 := fun t (ht : t ≠ classK) => EndL.ahead h ht
  rw [runP]
  simp only [h0 [40] (by decide), h0 [114, 101, 97, 100] (by decide), h0 [108, 101, 110] (by decide), h0 [110, 101, 119] (by decide), Bool.false_eq_true, if_false]
  rcases h with h | ⟨x, r, h, hk, hx⟩
  · exact ⟨placeP en s, by simp only [h]; rfl⟩
  · refine ⟨placeP en s, ?_⟩
    have k1 : ¬ x.kind = 2 ∧ ¬ x.kind = 3 ∧ ¬ x.kind = 1 := by omega
    simp only [h, k1.1, k1.2.1, k1.2.2, hx, show lookL valuesL classK = 0 from by decide, Int.lt_irrefl, and_false, if_false]
    rfl
theorem bare1 {o : Int} {t y : Bs} {n : Int} {a b : List NodeD} {p p' : Int} (h : bares b = bares a) : NodeR (.mk o t y n a p) (.mk o t y n b p') := by
  show bare _ = bare _
  simp only [bare, h]
theorem bares1 {a b : NodeD} (h : bare b = bare a) : bares [b] = bares [a] := by simp [bares, h]
theorem bares2 {a b c d : NodeD} (h : bare b = bare a) (k : bare d = bare c) : bares [b, d] = bares [a, c] := by simp [bares, h, k]
theorem bares3 {a b c d e f : NodeD} (h : bare b = bare a) (k : bare d = bare c) (l : bare f = bare e) : bares [b, d, f] = bares [a, c, e] := by simp [bares, h, k, l]
theorem find_ahead {s s' : PSt} (r : Rel T T' s s') : ∀ k, (ranksL k).find? (fun t => aheadP s' 0 t) = (ranksL k).find? (fun t => aheadP s 0 t) := fun k => by
  refine find_congr _ fun t ht => r.ahead ?_
  rintro rfl
  revert ht
  unfold ranksL
  split <;> decide
theorem rank_ne {s : PSt} {k : Nat} {t : Bs} (h : (ranksL k).find? (fun t => aheadP s 0 t) = some t) : t ≠ classK ∧ aheadP s 0 t = true := by
  refine ⟨?_, by simpa using List.find?_some h⟩
  rintro rfl
  have ht := List.mem_of_find?_eq_some h
  revert ht
  unfold ranksL
  split <;> decide
theorem run_sim (en en' : Int) : ∀ m m' nt nt', m ≤ m' → ntR nt nt' → RS T T' NodeR (runP en m nt) (runP en' m' nt')
  | 0, m', nt, nt', _, _ => fun s s' r => trivial
  | m + 1, 0, nt, nt', h, _ => absurd h (by omega)
  | m + 1, m' + 1, nt, nt', hm, hn => by
    have R : ∀ nt nt', ntR nt nt' → RS T T' NodeR (runP en m nt) (runP en' m' nt') := fun nt nt' h => run_sim en en' m m' nt nt' (by omega) h
    have M := fun (t : Bs) (ht : t ≠ classK) => rs_must (T := T) (T' := T') en en' [t] (by simpa using ht)
    have M2 := fun (t u : Bs) (ht : t ≠ classK) (hu : u ≠ classK) => rs_must (T := T) (T' := T') en en' [t, u] (by simpa using ⟨ht, hu⟩)
    have N := rs_name (T := T) (T' := T') en en'
    have W := rs_whole (T := T) (T' := T') en en'
    have P := rs_part (T := T) (T' := T') en en'
    cases nt <;> cases nt' <;> (first | exact absurd hn id | skip)
    case block.block =>
      exact rs_down en en' fun s s' r => RS.bind (M _ (by decide)) (fun _ _ _ => R (.loop [] _) (.loop [] _) rfl) s s' r
    case loop.loop a p b p' =>
      intro s s' r
      rw [runP, runP]
      refine rs_ite (r.ahead (by decide)) (fun q => ⟨bare1 hn, r.nextA (by decide) q⟩) (fun _ => ?_)
      exact RS.bind (R .stmt .stmt trivial) (fun x y hxy => R (.loop _ _) (.loop _ _) (by show bares _ = bares _; rw [bares_app, bares_app, show bares b = bares a from hn, bares1 hxy])) s s' r
    case round.round =>
      exact RS.bind (M _ (by decide)) fun _ _ _ => RS.bind (R .expr .expr trivial) fun x y h => RS.bind (M _ (by decide)) fun _ _ _ => RS.pure h
    case stmt.stmt =>
      intro s s' r
      rcases r.cases with ⟨h, h'⟩ | ⟨x, x', v, v', h, h', k1, k2, k3, k4⟩
      · obtain ⟨p, hp⟩ := stmt_end en m s (by rw [h]; exact r.ends)
        obtain ⟨p', hp'⟩ := stmt_end en' m' s' (by rw [h']; exact r.ends')
        rw [hp, hp']
        exact rfl
      · have rn : Rel T T' (nextP s) (nextP s') := ⟨r.ends, r.ends', r.deep, v, v', by simp [nextP, h], by simp [nextP, h'], k4⟩
        rw [runP, runP]
        refine rs_ite (r.ahead (by decide)) (fun _ => R .block .block trivial s s' r) (fun _ => ?_)
        simp only [h, h', k1, k2]
        refine rs_iteP Iff.rfl (fun _ => ?_) (fun _ => rsr_fail _ _ _ _ _)
        refine rs_iteP Iff.rfl (fun _ => ?_) (fun _ => ?_)
        · exact RS.bind (R .expr .expr trivial) (fun a b hab => RS.bind (M _ (by decide)) fun _ _ _ => RS.pure (bare1 (bares1 hab))) _ _ rn
        refine rs_iteP Iff.rfl (fun _ => ?_) (fun _ => ?_)
        · exact RS.bind (R .round .round trivial) (fun a b hab => RS.bind (R .block .block trivial) fun c d hcd => RS.pure (bare1 (bares2 hab hcd))) _ _ rn
        refine rs_ite (r.ahead (by decide)) (fun _ => ?_) (fun _ => ?_)
        · refine RS.bind (R .round .round trivial) (fun a b hab => RS.bind (R .block .block trivial) fun c d hcd t t' rt => ?_) _ _ rn
          refine rs_ite (rt.ahead (by decide)) (fun q => ?_) (fun _ => ⟨bare1 (bares2 hab hcd), rt⟩)
          exact RS.bind (R .block .block trivial) (fun e f hef => RS.pure (bare1 (bares3 hab hcd hef))) _ _ (rt.nextA (by decide) q)
        refine rs_ite (r.ahead (by decide)) (fun _ => ?_) (fun _ => ?_)
        · refine rs_ite (rn.ahead (by decide)) (fun _ => ?_) (fun _ => ?_)
          · exact RS.bind (M _ (by decide)) (fun _ _ _ => RS.pure (bare1 rfl)) _ _ rn
          · exact RS.bind (R .expr .expr trivial) (fun a b hab => RS.bind (M _ (by decide)) fun _ _ _ => RS.pure (bare1 (bares1 hab))) _ _ rn
        refine rs_ite (r.ahead (by decide)) (fun _ => ?_) (fun _ => ?_)
        · exact RS.bind W (fun a b hab => RS.bind N fun x y hxy => RS.bind (M _ (by decide)) fun _ _ _ => RS.bind (R .expr .expr trivial) fun c d hcd => RS.bind (M _ (by decide)) fun _ _ _ => RS.pure (by rw [← hab, hxy]; exact bare1 (bares1 hcd))) _ _ rn
        refine rs_ite (r.ahead (by decide)) (fun _ => R (.set _) (.set _) trivial _ _ rn) (fun _ => ?_)
        refine rs_ite (r.ahead (by decide)) (fun _ => ?_) (fun _ => rsr_fail _ _ _ _ _)
        exact RS.bind (R .block .block trivial) (fun a b hab => RS.bind (M2 _ _ (by decide) (by decide)) fun _ _ _ => RS.bind N fun x y hxy => RS.bind N fun x2 y2 hxy2 => RS.bind (M _ (by decide)) fun _ _ _ => RS.bind (R .block .block trivial) fun c d hcd => RS.pure (by rw [hxy, hxy2]; exact bare1 (bares2 hab hcd))) _ _ rn
    case set.set p p' =>
      refine RS.bind (R .post .post trivial) fun a b hab => RS.bind (M _ (by decide)) fun _ _ _ => RS.bind (R .expr .expr trivial) fun c d hcd => RS.bind (M _ (by decide)) fun _ _ _ => fun s s' r => ?_
      exact rs_iteP (by rw [bare_op hab]) (fun _ => ⟨bare1 (bares2 hab hcd), r⟩) (fun _ => rsr_fail _ _ _ _ _)
    case expr.expr => exact rs_down en en' (R (.rank 0) (.rank 0) rfl)
    case rank.rank k k' =>
      have e : k' = k := hn
      subst e
      intro s s' r
      rw [runP, runP]
      by_cases hk : k' = 5
      · rw [if_pos hk, if_pos hk]; exact R .un .un trivial s s' r
      · rw [if_neg hk, if_neg hk]; exact RS.bind (R (.rank _) (.rank _) rfl) (fun a b hab => R (.ranks _ _) (.ranks _ _) ⟨rfl, hab⟩) s s' r
    case ranks.ranks k n k' n' =>
      obtain ⟨e, hnn⟩ : k' = k ∧ bare n' = bare n := hn
      subst e
      intro s s' r
      rw [runP, runP]
      dsimp only
      rw [find_ahead r]
      cases hf : (ranksL k').find? (fun t => aheadP s 0 t) with
      | none => exact ⟨hnn, r⟩
      | some t =>
        obtain ⟨h1, h2⟩ := rank_ne hf
        refine RS.bind (R (.rank _) (.rank _) rfl) (fun a b hab => ?_) _ _ (r.nextA h1 h2)
        by_cases hk : k' = 2
        · rw [if_pos hk, if_pos hk]; exact RS.pure (bare1 (bares2 hnn hab))
        · rw [if_neg hk, if_neg hk]; exact R (.ranks _ _) (.ranks _ _) ⟨rfl, bare1 (bares2 hnn hab)⟩
    case un.un =>
      refine rs_down en en' fun s s' r => ?_
      refine rs_ite (r.ahead (by decide)) (fun q => ?_) (fun _ => ?_)
      · exact RS.bind (R .un .un trivial) (fun a b hab => RS.pure (bare1 (bares1 hab))) _ _ (r.nextA (by decide) q)
      refine rs_ite (r.ahead (by decide)) (fun q => ?_) (fun _ => R .post .post trivial s s' r)
      exact RS.bind (R .un .un trivial) (fun a b hab => RS.pure (bare1 (bares1 hab))) _ _ (r.nextA (by decide) q)
    case list.list a b =>
      intro s s' r
      have hab : bares b = bares a := hn
      rw [runP, runP]
      refine rs_ite (r.ahead (by decide)) (fun q => ⟨bare1 hab, r.nextA (by decide) q⟩) (fun _ => ?_)
      refine RS.bind (A := Eq) ?_ (fun _ _ _ => RS.bind (R .expr .expr trivial) fun x y hxy => R (.list _) (.list _) (by show bares _ = bares _; rw [bares_app, bares_app, hab, bares1 hxy])) s s' r
      rw [bares_len hab]
      by_cases hl : 1 < a.length
      · rw [if_pos hl, if_pos hl]; exact M _ (by decide)
      · rw [if_neg hl, if_neg hl]; exact RS.pure rfl
    case post.post => exact RS.bind (R .prim .prim trivial) fun a b hab => R (.posts _) (.posts _) hab
    case posts.posts n n' =>
      intro s s' r
      have hnn : bare n' = bare n := hn
      rw [runP, runP]
      dsimp only
      refine rs_ite (r.ahead (by decide)) (fun q => ?_) (fun _ => ?_)
      · refine RS.bind N (fun x y hxy t t' rt => ?_) _ _ (r.nextA (by decide) q)
        refine rs_ite (rt.ahead (by decide)) (fun q => ?_) (fun _ => ?_)
        · exact RS.bind (R (.list _) (.list _) (bares1 hnn)) (fun a b hab => R (.posts _) (.posts _) (by rw [hxy]; exact bare1 (bare_kids hab))) _ _ (rt.nextA (by decide) q)
        · exact R (.posts _) (.posts _) (by rw [hxy]; exact bare1 (bares1 hnn)) _ _ rt
      refine rs_ite (r.ahead (by decide)) (fun q => ?_) (fun _ => ?_)
      · exact RS.bind (R .expr .expr trivial) (fun a b hab => RS.bind (M _ (by decide)) fun _ _ _ => R (.posts _) (.posts _) (bare1 (bares2 hnn hab))) _ _ (r.nextA (by decide) q)
      refine rs_ite (r.ahead (by decide)) (fun q => ?_) (fun _ => ?_)
      · exact RS.bind P (fun a b hab => R (.posts _) (.posts _) (by rw [← hab]; exact bare1 (bares1 hnn))) _ _ (r.nextA (by decide) q)
      refine rs_ite (r.ahead (by decide)) (fun q => ?_) (fun _ => ⟨hnn, r⟩)
      exact RS.bind P (fun a b hab => R (.posts _) (.posts _) (by rw [← hab]; exact bare1 (bares1 hnn))) _ _ (r.nextA (by decide) q)
    case made.made p p' =>
      intro s s' r
      rw [runP, runP]
      refine rs_ite (r.kindTwo (by decide) (by decide)) (fun q => ?_) (fun _ => ?_)
      · exact RS.bind N (fun x y hxy => RS.bind (M2 _ _ (by decide) (by decide)) fun _ _ _ => RS.pure (by rw [hxy]; exact bare1 rfl)) s s' r
      · exact RS.bind P (fun a b hab => RS.bind (M _ (by decide)) fun _ _ _ => RS.bind (R .expr .expr trivial) fun c d hcd => RS.bind (M _ (by decide)) fun _ _ _ => RS.pure (by rw [← hab]; exact bare1 (bares1 hcd))) s s' r
    case prim.prim =>
      intro s s' r
      rcases r.cases with ⟨h, h'⟩ | ⟨x, x', v, v', h, h', k1, k2, k3, k4⟩
      · obtain ⟨p, hp⟩ := prim_end en m s (by rw [h]; exact r.ends)
        obtain ⟨p', hp'⟩ := prim_end en' m' s' (by rw [h']; exact r.ends')
        rw [hp, hp']
        exact rfl
      · have rn : Rel T T' (nextP s) (nextP s') := ⟨r.ends, r.ends', r.deep, v, v', by simp [nextP, h], by simp [nextP, h'], k4⟩
        rw [runP, runP]
        simp only [h, h', k1, k2, k3]
        refine rs_iteP Iff.rfl (fun _ => ⟨bare1 rfl, rn⟩) (fun _ => ?_)
        refine rs_iteP Iff.rfl (fun _ => ⟨bare1 rfl, rn⟩) (fun _ => ?_)
        refine rs_iteP Iff.rfl (fun _ => ⟨bare1 rfl, rn⟩) (fun _ => ?_)
        refine rs_ite (r.ahead (by decide)) (fun _ => ?_) (fun _ => ?_)
        · exact RS.bind (R .expr .expr trivial) (fun a b hab => RS.bind (M _ (by decide)) fun _ _ _ => RS.pure hab) _ _ rn
        refine rs_ite (r.ahead (by decide)) (fun _ => ?_) (fun _ => ?_)
        · exact RS.bind (M2 _ _ (by decide) (by decide)) (fun _ _ _ => RS.pure (bare1 rfl)) _ _ rn
        refine rs_ite (r.ahead (by decide)) (fun _ => ?_) (fun _ => ?_)
        · exact RS.bind (R .round .round trivial) (fun a b hab => RS.pure (bare1 (bares1 hab))) _ _ rn
        refine rs_ite (r.ahead (by decide)) (fun _ => R (.made _) (.made _) trivial _ _ rn) (fun _ => ?_)
        exact rs_iteP Iff.rfl (fun _ => ⟨bare1 rfl, rn⟩) (fun _ => rsr_fail _ _ _ _ _)
end
end Go.Proofs.YtcaigcmbgihhkaaGreatDoor
namespace Go.Proofs.YtcaigcmbgihhkaaGreatDoor
open Go Go.RowKit
set_option linter.unusedVariables false
set_option linter.unusedSimpArgs false
def bareP (p : ParamD) : Bs × Bs := (p.name, p.type)
def bareM (m : MethodD) : Bs × Bs × List (Bs × Bs) × NodeD := (m.name, m.gives, m.takes.map bareP, bare m.body)
def bareC (c : ClassD) : Bs × Bs × List (Bs × Bs) × List (Bs × Bs × List (Bs × Bs) × NodeD) := (c.name, c.super, c.fields.map bareP, c.methods.map bareM)
section
variable {T T' : List WordD}
theorem rs_param (en en' : Int) : RS T T' (fun a b => bareP b = bareP a) (paramP en) (paramP en') := RS.bind (rs_whole en en') fun a b h => RS.bind (rs_name en en') fun x y hxy => RS.pure (by simp only [bareP, h, hxy])
theorem map_len {α β γ : Type} {f : α → γ} {g : β → γ} {a : List α} {b : List β} (h : b.map g = a.map f) : b.length = a.length := by simpa using congrArg List.length h
theorem rs_takes (en en' : Int) : ∀ k k' acc acc', k ≤ k' → acc'.map bareP = acc.map bareP → RS T T' (fun a b => b.map bareP = a.map bareP) (takesP en k acc) (takesP en' k' acc')
  | 0, k', acc, acc', _, _ => fun s s' r => trivial
  | k + 1, 0, acc, acc', h, _ => absurd h (by omega)
  | k + 1, k' + 1, acc, acc', h, ha => fun s s' r => by
    rw [takesP, takesP]
    refine rs_ite (r.ahead (by decide)) (fun q => ⟨ha, r.nextA (by decide) q⟩) (fun _ => ?_)
    refine RS.bind (A := Eq) ?_ (fun _ _ _ => RS.bind (rs_param en en') fun x y hxy => rs_takes en en' k k' _ _ (by omega) (by simp only [List.map_append, ha, List.map_cons, List.map_nil, hxy])) s s' r
    rw [map_len ha]
    by_cases hl : 0 < acc.length
    · rw [if_pos hl, if_pos hl]; exact rs_must en en' _ (by decide)
    · rw [if_neg hl, if_neg hl]; exact RS.pure rfl
theorem rs_method (en en' : Int) (k k' : Nat) (h : k ≤ k') : RS T T' (fun a b => bareM b = bareM a) (methodP en k) (methodP en' k') := by
  unfold methodP
  refine RS.bind (A := Eq) (fun s s' r => ?_) fun g g' hg => RS.bind (rs_name en en') fun x y hxy => RS.bind (rs_must en en' _ (by decide)) fun _ _ _ => RS.bind (rs_takes en en' k k' [] [] h rfl) fun t t' ht => RS.bind (run_sim en en' k k' .block .block h trivial) fun b b' hb => RS.pure (by
    have hb : bare b' = bare b := hb
    simp only [bareM, hg, hxy, ht, hb])
  exact rs_ite (r.ahead (by decide)) (fun q => ⟨rfl, r.nextA (by decide) q⟩) (fun _ => rs_whole en en' s s' r)
theorem rs_members (en en' : Int) (k k' : Nat) (h : k ≤ k') : ∀ m m' fs fs' ms ms', m ≤ m' → fs'.map bareP = fs.map bareP → ms'.map bareM = ms.map bareM →
    RS T T' (fun a b => b.1.map bareP = a.1.map bareP ∧ b.2.map bareM = a.2.map bareM) (membersP en k m fs ms) (membersP en' k' m' fs' ms')
  | 0, m', _, _, _, _, _, _, _ => fun s s' r => trivial
  | m + 1, 0, _, _, _, _, h, _, _ => absurd h (by omega)
  | m + 1, m' + 1, fs, fs', ms, ms', hm, hf, hs => fun s s' r => by
    rw [membersP, membersP]
    refine rs_ite (r.ahead (by decide)) (fun q => ⟨⟨hf, hs⟩, r.nextA (by decide) q⟩) (fun _ => ?_)
    refine rs_ite (r.ahead (by decide)) (fun q => ?_) (fun _ => ?_)
    · exact RS.bind (rs_param en en') (fun x y hxy => RS.bind (rs_must en en' _ (by decide)) fun _ _ _ => rs_members en en' k k' h m m' _ _ _ _ (by omega) (by simp only [List.map_append, hf, List.map_cons, List.map_nil, hxy]) hs) _ _ (r.nextA (by decide) q)
    · exact RS.bind (rs_must en en' _ (by decide)) (fun _ _ _ => RS.bind (rs_method en en' k k' h) fun x y hxy => rs_members en en' k k' h m m' _ _ _ _ (by omega) hf (by simp only [List.map_append, hs, List.map_cons, List.map_nil, hxy])) s s' r
theorem class_sim (en en' : Int) (k k' : Nat) (h : k ≤ k') (s s' : PSt) (r : Rel T T' s s') (hne : ¬ (s.ws = T ∧ s'.ws = T')) : RSr T T' (fun a b => bareC b = bareC a) (classP en k s) (classP en' k' s') := by
  have hx : RS T T' (fun a b => bareC b = bareC a) (fun s => PM.bind (nameP en) (fun x =>
      PM.bind (fun s => if aheadP s 0 [101, 120, 116, 101, 110, 100, 115] then PM.bind (nameP en) (fun y => PM.pure y.1) (nextP s) else some (.ok (objectL, s))) fun u =>
        PM.bind (mustP en [[123]]) fun _ => PM.bind (membersP en k k [] []) fun m => PM.pure (⟨x.1, u, m.1, m.2, x.2⟩ : ClassD)) s) (fun s => PM.bind (nameP en') (fun x =>
      PM.bind (fun s => if aheadP s 0 [101, 120, 116, 101, 110, 100, 115] then PM.bind (nameP en') (fun y => PM.pure y.1) (nextP s) else some (.ok (objectL, s))) fun u =>
        PM.bind (mustP en' [[123]]) fun _ => PM.bind (membersP en' k' k' [] []) fun m => PM.pure (⟨x.1, u, m.1, m.2, x.2⟩ : ClassD)) s) := by
    refine RS.bind (rs_name en en') fun x y hxy => RS.bind (A := Eq) (fun s s' r => ?_) fun u u' hu => RS.bind (rs_must en en' _ (by decide)) fun _ _ _ => RS.bind (rs_members en en' k k' h k k' [] [] [] [] h rfl rfl) fun m m' hm => RS.pure (by simp only [bareC, hxy, hu, hm.1, hm.2])
    exact rs_ite (r.ahead (by decide)) (fun q => RS.bind (rs_name en en') (fun a b hab => RS.pure hab.symm) _ _ (r.nextA (by decide) q)) (fun _ => ⟨rfl, r⟩)
  have e : aheadP s' 0 classK = aheadP s 0 classK := by
    rcases r.cases with h | ⟨x, x', v, v', h, h', k1, k2, _⟩
    · exact absurd h hne
    · simp [aheadP, h, h', k1, k2]
  unfold classP
  show RSr T T' _ (PM.bind (mustP en [classK]) _ s) (PM.bind (mustP en' [classK]) _ s')
  cases ha : aheadP s 0 classK with
  | true =>
    have h1 : ∀ en, mustP en [classK] s = some (.ok ((), nextP s)) := fun en => by rw [mustP]; simp only [ha, if_true]; rfl
    have h2 : ∀ en, mustP en [classK] s' = some (.ok ((), nextP s')) := fun en => by rw [mustP]; simp only [e, ha, if_true]; rfl
    unfold PM.bind at hx ⊢
    rw [h1, h2]
    exact hx _ _ (r.next hne)
  | false =>
    have h1 : ∀ en, mustP en [classK] s = some (.error (placeP en s, 18)) := fun en => by rw [mustP]; simp only [ha, Bool.false_eq_true, if_false]; rfl
    have h2 : ∀ en, mustP en [classK] s' = some (.error (placeP en s', 18)) := fun en => by rw [mustP]; simp only [e, ha, Bool.false_eq_true, if_false]; rfl
    unfold PM.bind
    rw [h1, h2]
    exact rfl
end
theorem classes_sim (en en' : Int) (k k' : Nat) (h : k ≤ k') (pre : List ClassD) : ∀ m m' acc acc' s s', m ≤ m' → acc'.map bareC = pre.map bareC ++ acc.map bareC → Rel [] [] s s' →
    RSr [] [] (fun a b => b.map bareC = pre.map bareC ++ a.map bareC) (classesP en k m acc s) (classesP en' k' m' acc' s')
  | 0, m', _, _, s, s', _, _, r => trivial
  | m + 1, 0, _, _, _, _, hm, _, _ => absurd hm (by omega)
  | m + 1, m' + 1, acc, acc', s, s', hm, ha, r => by
    rw [classesP, classesP]
    have e : s'.ws = [] ↔ s.ws = [] := by
      rcases r.cases with ⟨h, h'⟩ | ⟨x, x', v, v', h, h', _⟩ <;> simp [h, h']
    refine rs_iteP e (fun _ => ⟨ha, r⟩) (fun hne => ?_)
    have hc := class_sim en en' k k' h s s' r (fun q => hne q.1)
    unfold PM.bind
    revert hc
    generalize classP en k s = x
    generalize classP en' k' s' = y
    intro hc
    rcases x with _ | (e | ⟨a, t⟩) <;> rcases y with _ | (e' | ⟨b, t'⟩) <;> (first | exact trivial | exact absurd hc id | exact hc | skip)
    have hab : bareC b = bareC a := hc.1
    exact classes_sim en en' k k' h pre m m' _ _ t t' (by omega) (by simp only [List.map_append, ha, List.map_cons, List.map_nil, hab, List.append_assoc]) hc.2
theorem lexFrom_ok (size : Nat) : ∀ (m : Nat) (l : Bs) (acc : List WordD), (lexFrom size m l acc).2.2 = 0 → (lexFrom size m l acc).2.1 = 0
  | 0, l, acc => by simp [lexFrom]
  | m + 1, l, acc => by
    rw [lexFrom]
    split
    · simp
    · split
      · simp
      · exact lexFrom_ok size m _ _
theorem lexL_ok {l : Bs} (h : (lexL l).2.2 = 0) : lexL l = ((lexL l).1, 0, 0) := by
  have : (lexL l).2.1 = 0 := by
    revert h
    unfold lexL
    split
    · simp
    · exact lexFrom_ok _ _ _ _
  rw [Prod.ext_iff, Prod.ext_iff]
  exact ⟨rfl, this, h⟩
theorem parseL_ok {src : Bs} {L : List WordD} (h : lexL src = (L, 0, 0)) : ∃ r, classesP (src.length : Int) (stepsL L) (L.length + 1) [] ⟨L, 0⟩ = some r ∧ parseL src = match r with | .ok (l, _) => .ok l | .error f => .error f := by
  have hn := tot_classes (src.length : Int) (stepsL L) (L.length + 1) [] ⟨L, 0⟩ (by simp) (by simp [stepsL])
  unfold parseL
  rw [h]
  simp only [ne_eq, not_true, if_false]
  rcases hc : classesP (src.length : Int) (stepsL L) (L.length + 1) [] ⟨L, 0⟩ with _ | (e | ⟨l, t⟩)
  · exact absurd hc hn
  · exact ⟨_, rfl, rfl⟩
  · exact ⟨_, rfl, rfl⟩
theorem parseL_lex {src : Bs} {x : List ClassD} (h : parseL src = .ok x) : lexL src = ((lexL src).1, 0, 0) := by
  refine lexL_ok ?_
  refine Classical.byContradiction fun hn => ?_
  unfold parseL at h
  rw [if_pos hn] at h
  cases h
theorem strip_len {X X' : List WordD} (h : X'.map strip = X.map strip) : X'.length = X.length := map_len h
theorem parse_alike (a b : Bs) (X X' : List WordD) (la : lexL a = (X, 0, 0)) (lb : lexL b = (X', 0, 0)) (hs : X'.map strip = X.map strip) :
    (∃ x y, parseL a = .ok x ∧ parseL b = .ok y ∧ y.map bareC = x.map bareC) ∨ ∃ p q why, parseL a = .error (p, why) ∧ parseL b = .error (q, why) := by
  obtain ⟨ra, ea, pa⟩ := parseL_ok la
  obtain ⟨rb, eb, pb⟩ := parseL_ok lb
  have hl := strip_len hs
  have := classes_sim (a.length : Int) (b.length : Int) (stepsL X) (stepsL X') (by simp [stepsL, hl]) [] (X.length + 1) (X'.length + 1) [] [] ⟨X, 0⟩ ⟨X', 0⟩ (by omega) rfl ⟨.inl rfl, .inl rfl, rfl, X, X', by simp, by simp, hs⟩
  rw [ea, eb] at this
  rw [pa, pb]
  rcases ra with ⟨p, w⟩ | ⟨x, s⟩ <;> rcases rb with ⟨q, w'⟩ | ⟨y, s'⟩
  · have hw : w' = w := this
    subst hw
    exact .inr ⟨p, q, w', rfl, rfl⟩
  · exact absurd this id
  · exact absurd this id
  · exact .inl ⟨x, y, rfl, rfl, by simpa using this.1⟩
end Go.Proofs.YtcaigcmbgihhkaaGreatDoor
