/-
  Part of a proof: PsA, PsB, PsC.
-/
import Derived.Test.YtcaigcmbgihhkaaDoorZParA
import Derived.Test.YtcaigcmbgihhkaaDoorZTwo
import Derived.Test.YtcaigcmbgihhkaaDoorZParAE
namespace Go.Proofs.YtcaigcmbgihhkaaDoor
open Go Go.RowKit
set_option linter.unusedVariables false
set_option linter.unusedSimpArgs false
mutual
def bare : NodeD → NodeD
  | .mk o t y n k _ => .mk o t y n (bares k) 0
def bares : List NodeD → List NodeD
  | [] => []
  | a :: r => bare a :: bares r
end
def classK : Bs := [99, 108, 97, 115, 115]
def EndL (T : List WordD) : Prop := T = [] ∨ ∃ x r, T = x :: r ∧ (x.kind = 5 ∨ x.kind = 4) ∧ x.text = classK
structure Rel (T T' : List WordD) (s s' : PSt) : Prop where
  ends : EndL T
  ends' : EndL T'
  deep : s'.deep = s.deep
  ws : ∃ u u', s.ws = u ++ T ∧ s'.ws = u' ++ T' ∧ u'.map strip = u.map strip
def RSr {α β : Type} (T T' : List WordD) (A : α → β → Prop) (x : Option (Except Fault (α × PSt))) (y : Option (Except Fault (β × PSt))) : Prop :=
  match x, y with
  | none, _ => True
  | some (.error e), some (.error e') => e'.2 = e.2
  | some (.ok (a, s)), some (.ok (b, s')) => A a b ∧ Rel T T' s s'
  | _, _ => False
def RS {α β : Type} (T T' : List WordD) (A : α → β → Prop) (m : PM α) (m' : PM β) : Prop := ∀ s s', Rel T T' s s' → RSr T T' A (m s) (m' s')
section
variable {T T' : List WordD}
theorem RS.pure {α β : Type} {A : α → β → Prop} {a : α} {b : β} (h : A a b) : RS T T' A (PM.pure a) (PM.pure b) := fun s s' r => ⟨h, r⟩
theorem RS.fail {α β : Type} {A : α → β → Prop} (p p' w : Int) : RS T T' A (PM.fail p w) (PM.fail p' w) := fun s s' r => rfl
theorem RS.bind {α β γ δ : Type} {A : α → β → Prop} {B : γ → δ → Prop} {m : PM α} {m' : PM β} {f : α → PM γ} {f' : β → PM δ} (h : RS T T' A m m') (k : ∀ a b, A a b → RS T T' B (f a) (f' b)) : RS T T' B (PM.bind m f) (PM.bind m' f') := by
  intro s s' r
  have h := h s s' r
  unfold PM.bind
  revert h
  generalize m s = x
  generalize m' s' = y
  intro h
  rcases x with _ | (e | ⟨a, t⟩) <;> rcases y with _ | (e' | ⟨b, t'⟩) <;> (first | exact trivial | exact absurd h id | exact h | exact k a b h.1 t t' h.2)
theorem RSr.imp {α β : Type} {A B : α → β → Prop} (h : ∀ a b, A a b → B a b) {x : Option (Except Fault (α × PSt))} {y : Option (Except Fault (β × PSt))} (k : RSr T T' A x y) : RSr T T' B x y := by
  rcases x with _ | (e | ⟨a, t⟩) <;> rcases y with _ | (e' | ⟨b, t'⟩) <;> (first | exact trivial | exact absurd k id | exact k | exact ⟨h _ _ k.1, k.2⟩)
theorem Rel.cases {s s' : PSt} (r : Rel T T' s s') : (s.ws = T ∧ s'.ws = T') ∨ ∃ x x' v v', s.ws = x :: (v ++ T) ∧ s'.ws = x' :: (v' ++ T') ∧ x'.kind = x.kind ∧ x'.text = x.text ∧ x'.n = x.n ∧ v'.map strip = v.map strip := by
  obtain ⟨_, _, _, u, u', h1, h2, h3⟩ := r
  cases u with
  | nil =>
    cases u' with
    | nil => exact .inl ⟨h1, h2⟩
    | cons y v => simp at h3
  | cons x v =>
    cases u' with
    | nil => simp at h3
    | cons y v' =>
      simp only [List.map_cons, List.cons.injEq, strip, Prod.mk.injEq] at h3
      exact .inr ⟨x, y, v, v', h1, h2, h3.1.1, h3.1.2.1, h3.1.2.2, h3.2⟩
theorem EndL.ahead {s : PSt} (h : EndL s.ws) {t : Bs} (ht : t ≠ classK) : aheadP s 0 t = false := by
  rcases h with h | ⟨x, r, h, hk, hx⟩
  · simp [aheadP, h]
  · have : (x.text == t) = false := by rw [hx]; exact beq_eq_false_iff_ne.2 (Ne.symm ht)
    simp [aheadP, h, this]
theorem EndL.kind {s : PSt} (h : EndL s.ws) {k : Int} (ht : k < 4) : kindP s k = false := by
  rcases h with h | ⟨x, r, h, hk, hx⟩
  · simp [kindP, h]
  · rcases hk with hk | hk <;> simp [kindP, h, hk] <;> omega
theorem Rel.ahead {s s' : PSt} (r : Rel T T' s s') {t : Bs} (ht : t ≠ classK) : aheadP s' 0 t = aheadP s 0 t := by
  rcases r.cases with ⟨h, h'⟩ | ⟨x, x', v, v', h, h', k1, k2, _⟩
  · rw [EndL.ahead (by rw [h']; exact r.ends') ht, EndL.ahead (by rw [h]; exact r.ends) ht]
  · simp [aheadP, h, h', k1, k2]
theorem Rel.kind {s s' : PSt} (r : Rel T T' s s') {k : Int} (ht : k < 4) : kindP s' k = kindP s k := by
  rcases r.cases with ⟨h, h'⟩ | ⟨x, x', v, v', h, h', k1, k2, _⟩
  · rw [EndL.kind (by rw [h']; exact r.ends') ht, EndL.kind (by rw [h]; exact r.ends) ht]
  · simp [kindP, h, h', k1, k2]
theorem Rel.next {s s' : PSt} (r : Rel T T' s s') (h : ¬ (s.ws = T ∧ s'.ws = T')) : Rel T T' (nextP s) (nextP s') := by
  rcases r.cases with h1 | ⟨x, x', v, v', h, h', k1, k2, k3, k4⟩
  · exact absurd h1 h
  · exact ⟨r.ends, r.ends', r.deep, v, v', by simp [nextP, h], by simp [nextP, h'], k4⟩
end
end Go.Proofs.YtcaigcmbgihhkaaDoor
namespace Go.Proofs.YtcaigcmbgihhkaaDoor
open Go Go.RowKit
set_option linter.unusedVariables false
set_option linter.unusedSimpArgs false
section
variable {T T' : List WordD}
end
theorem lexFrom_ok (size : Nat) : ∀ (m : Nat) (l : Bs) (acc : List WordD), (lexFrom size m l acc).2.2 = 0 → (lexFrom size m l acc).2.1 = 0
  | 0, l, acc => by simp [lexFrom]
  | m + 1, l, acc => by
    rw [lexFrom]
    split
    · simp
    · split
      · simp
      · exact lexFrom_ok size m _ _
theorem lexL_ok {l : Bs} (h : (lexL l).2.2 = 0) : lexL l = ((lexL l).1, 0, 0) := by
  have : (lexL l).2.1 = 0 := by
    revert h
    unfold lexL
    split
    · simp
    · exact lexFrom_ok _ _ _ _
  rw [Prod.ext_iff, Prod.ext_iff]
  exact ⟨rfl, this, h⟩
theorem parseL_ok {src : Bs} {L : List WordD} (h : lexL src = (L, 0, 0)) : ∃ r, classesP (src.length : Int) (stepsL L) (L.length + 1) [] ⟨L, 0⟩ = some r ∧ parseL src = match r with | .ok (l, _) => .ok l | .error f => .error f := by
  have hn := tot_classes (src.length : Int) (stepsL L) (L.length + 1) [] ⟨L, 0⟩ (by simp) (by simp [stepsL])
  unfold parseL
  rw [h]
  simp only [ne_eq, not_true, if_false]
  rcases hc : classesP (src.length : Int) (stepsL L) (L.length + 1) [] ⟨L, 0⟩ with _ | (e | ⟨l, t⟩)
  · exact absurd hc hn
  · exact ⟨_, rfl, rfl⟩
  · exact ⟨_, rfl, rfl⟩
end Go.Proofs.YtcaigcmbgihhkaaDoor
namespace Go.Proofs.YtcaigcmbgihhkaaDoor
open Go Go.RowKit
set_option linter.unusedVariables false
set_option linter.unusedSimpArgs false
def UpL (n : Int) (l : List WordD) : Prop := l.Pairwise (fun x y => x.at_ < y.at_) ∧ ∀ x ∈ l, 0 ≤ x.at_ ∧ x.at_ ≤ n
theorem Lx_up (S : Nat) : ∀ (m : Nat) (l : Bs) (acc : List WordD), l.length = m → l.length ≤ S → UpL S acc → (∀ x ∈ acc, x.at_ < ((S - l.length : Nat) : Int) ∨ l = []) → UpL S (Lx S l acc).1 := by
  intro m
  induction m using Nat.strongRecOn with
  | _ m ih =>
    intro l acc hm hS ha hlt
    rw [Lx_eq S]
    split
    · exact ha
    · rename_i hne
      cases hw : wordL l with
      | none => exact ⟨List.Pairwise.nil, fun x hx => by cases hx⟩
      | some x =>
        obtain ⟨k, t, v, n⟩ := x
        simp only
        obtain ⟨h1, h2, _⟩ := wordL_n hw
        have h3 := skipL_len (l.drop n)
        rw [List.length_drop] at h3
        have hlt' : ∀ x ∈ acc, x.at_ < ((S - l.length : Nat) : Int) := fun x hx => (hlt x hx).resolve_right hne
        refine ih _ (by omega) _ _ rfl (by omega) ⟨?_, ?_⟩ ?_
        · rw [List.pairwise_append]
          exact ⟨ha.1, List.pairwise_singleton _ _, fun x hx y hy => by simp only [List.mem_singleton] at hy; subst hy; exact hlt' x hx⟩
        · intro x hx
          rcases List.mem_append.1 hx with hx | hx
          · exact ha.2 x hx
          · simp only [List.mem_singleton] at hx
            subst hx
            simp only
            omega
        · intro x hx
          refine .inl ?_
          rcases List.mem_append.1 hx with hx | hx
          · have := hlt' x hx
            omega
          · simp only [List.mem_singleton] at hx
            subst hx
            simp only
            omega
theorem lexL_up (src : Bs) : UpL (src.length : Int) (lexL src).1 := by
  by_cases h : src.length ≤ 16384
  · rw [lexL_Lx src h]
    exact Lx_up src.length _ _ [] rfl (skipL_len src) ⟨List.Pairwise.nil, fun x hx => by cases hx⟩ (fun x hx => by cases hx)
  · rw [lexL, if_pos (by omega)]
    exact ⟨List.Pairwise.nil, fun x hx => by cases hx⟩
theorem lexL_in (l : Bs) : 0 ≤ (lexL l).2.1 ∧ (lexL l).2.1 ≤ l.length := by
  unfold lexL
  split
  · simp
  · exact lexFrom_at l.length (l.length + 1) (skipL l) []
theorem ne18 : (18 : Int) ≠ 0 := by decide
section
variable (W : List WordD) (en : Int)
def Wok (s : PSt) : Prop := ∀ x ∈ s.ws, x ∈ W
def Pok (p : Int) : Prop := 0 ≤ p ∧ p ≤ en
def PLr {α : Type} (A : α → Prop) (x : Option (Except Fault (α × PSt))) : Prop :=
  match x with
  | none => True
  | some (.error e) => Pok en e.1 ∧ e.2 ≠ 0
  | some (.ok (a, s)) => A a ∧ Wok W s
def PL {α : Type} (A : α → Prop) (m : PM α) : Prop := ∀ s, Wok W s → PLr W en A (m s)
def NameW (x : Bs × Int) : Prop := ∃ w ∈ W, w.kind = 1 ∧ w.text = x.1 ∧ w.at_ = x.2
end
section
variable {W : List WordD} {en : Int}
theorem PL.pure {α : Type} {A : α → Prop} {a : α} (h : A a) : PL W en A (PM.pure a) := fun s r => ⟨h, r⟩
theorem PL.bind {α β : Type} {A : α → Prop} {B : β → Prop} {m : PM α} {f : α → PM β} (h : PL W en A m) (k : ∀ a, A a → PL W en B (f a)) : PL W en B (PM.bind m f) := by
  intro s r
  have h := h s r
  unfold PM.bind
  revert h
  generalize m s = x
  intro h
  rcases x with _ | (e | ⟨a, t⟩)
  · trivial
  · exact h
  · exact k a h.1 t h.2
theorem pl_ite {α : Type} {A : α → Prop} {p : Prop} [Decidable p] {a b : Option (Except Fault (α × PSt))} (x : p → PLr W en A a) (y : ¬ p → PLr W en A b) : PLr W en A (if p then a else b) := by
  by_cases hp : p
  · rw [if_pos hp]; exact x hp
  · rw [if_neg hp]; exact y hp
theorem Wok.next {s : PSt} (h : Wok W s) : Wok W (nextP s) := fun x hx => h x (List.mem_of_mem_tail hx)
theorem PL.nextP {α : Type} {A : α → Prop} {m : PM α} (h : PL W en A m) : ∀ s, Wok W s → PLr W en A (m (nextP s)) := fun s hs => h _ hs.next
variable (hW : ∀ x ∈ W, Pok en x.at_) (h0 : 0 ≤ en)
include hW h0
theorem Wok.place {s : PSt} (h : Wok W s) : Pok en (placeP en s) := by
  unfold placeP
  cases hs : s.ws with
  | nil => exact ⟨h0, Int.le_refl _⟩
  | cons x r => exact hW x (h x (by rw [hs]; simp))
theorem pl_fail {α : Type} {A : α → Prop} {s : PSt} (h : Wok W s) (w : Int) (hw : w ≠ 0 := by decide) : PLr W en A ((PM.fail (placeP en s) w : PM α) s) := ⟨Wok.place hW h0 h, hw⟩
theorem pl_must : ∀ l : List Bs, PL W en (fun _ => True) (mustP en l)
  | [] => PL.pure trivial
  | t :: l => fun s r => by
    rw [mustP]
    exact pl_ite (fun _ => pl_must l _ r.next) (fun _ => pl_fail hW h0 r _)
theorem pl_name : PL W en (NameW W) (nameP en) := fun s r => by
  unfold nameP
  cases hs : s.ws with
  | nil => exact pl_fail hW h0 r _
  | cons x v =>
    refine pl_ite (fun hk => ⟨⟨x, r x (by rw [hs]; simp), hk, rfl, rfl⟩, fun y hy => r y (by rw [hs]; simp [show y ∈ v from hy])⟩) (fun _ => pl_fail hW h0 r _)
theorem pl_brackets : ∀ k d, PL W en (fun _ => True) (bracketsP en k d)
  | 0, d => fun s r => trivial
  | k + 1, d => fun s r => by
    rw [bracketsP]
    exact pl_ite (fun _ => pl_ite (fun _ => pl_brackets k _ _ r.next.next) (fun _ => pl_fail hW h0 r _)) (fun _ => ⟨trivial, r⟩)
theorem pl_base : PL W en (fun _ => True) (baseP en) := fun s r => by
  unfold baseP
  exact pl_ite (fun _ => ⟨trivial, r.next⟩) (fun _ => pl_ite (fun _ => ⟨trivial, r.next⟩) (fun _ => pl_ite (fun _ => ⟨trivial, r.next⟩) (fun _ => PL.bind (pl_name hW h0) (fun _ _ => PL.pure trivial) s r)))
theorem pl_part : PL W en (fun _ => True) (partP en) := PL.bind (pl_base hW h0) fun d _ s r => pl_brackets hW h0 _ d s r
theorem pl_whole : PL W en (fun _ => True) (wholeP en) := PL.bind (pl_part hW h0) fun d _ s r => pl_ite (fun _ => ⟨Wok.place hW h0 r.next, ne18⟩) (fun _ => ⟨trivial, r⟩)
theorem pl_down {A : NodeD → Prop} {m : PM NodeD} (h : PL W en A m) : PL W en A (downP en m) := fun s r => by
  unfold downP
  exact pl_ite (fun _ => pl_fail hW h0 r _) (fun _ => PL.bind (B := A) (f := fun n s' => some (.ok (n, ⟨s'.ws, s'.deep - 1⟩))) h (fun a ha t rt => ⟨ha, rt⟩) ⟨s.ws, s.deep + 1⟩ r)
omit hW h0 in
def ntP (en : Int) : NT → Prop
  | .loop _ p => Pok en p
  | .set p => Pok en p
  | .ranks _ n => Pok en n.at_
  | .posts n => Pok en n.at_
  | .made p => Pok en p
  | _ => True
omit hW h0 in
def NodeP (en : Int) (n : NodeD) : Prop := Pok en n.at_
omit hW h0 in
theorem pk {o : Int} {t y : Bs} {n : Int} {k : List NodeD} {p : Int} (h : Pok en p) : NodeP en (.mk o t y n k p) := h
theorem pl_run : ∀ m nt, ntP en nt → PL W en (NodeP en) (runP en m nt)
  | 0, nt, _ => fun s r => trivial
  | m + 1, nt, hn => by
    have R : ∀ nt, ntP en nt → PL W en (NodeP en) (runP en m nt) := fun nt h => pl_run m nt h
    have M := fun l => pl_must (W := W) hW h0 l
    have N := pl_name (W := W) hW h0
    have P := pl_part (W := W) hW h0
    have Q := pl_whole (W := W) hW h0
    have pl : ∀ {s : PSt}, Wok W s → Pok en (placeP en s) := fun h => Wok.place hW h0 h
    cases nt with
    | block => exact pl_down hW h0 fun s r => PL.bind (M _) (fun _ _ => R (.loop _ _) (by exact pl r)) s r
    | loop a p =>
      intro s r
      rw [runP]
      exact pl_ite (fun _ => ⟨pk hn, r.next⟩) (fun _ => PL.bind (R .stmt trivial) (fun _ _ => R (.loop _ _) (by exact hn)) s r)
    | round => exact PL.bind (M _) fun _ _ => PL.bind (R .expr trivial) fun n hn => PL.bind (M _) fun _ _ => PL.pure hn
    | stmt =>
      intro s r
      rw [runP]
      refine pl_ite (fun _ => R .block trivial s r) (fun _ => ?_)
      cases hs : s.ws with
      | nil => exact pl_fail hW h0 r _
      | cons x v =>
        have hx : Pok en x.at_ := hW x (r x (by rw [hs]; simp))
        refine pl_ite (fun _ => ?_) (fun _ => pl_fail hW h0 r _)
        refine pl_ite (fun _ => PL.bind (R .expr trivial) (fun _ _ => PL.bind (M _) fun _ _ => PL.pure (pk hx)) _ r.next) (fun _ => ?_)
        refine pl_ite (fun _ => PL.bind (R .round trivial) (fun _ _ => PL.bind (R .block trivial) fun _ _ => PL.pure (pk hx)) _ r.next) (fun _ => ?_)
        refine pl_ite (fun _ => ?_) (fun _ => ?_)
        · refine PL.bind (R .round trivial) (fun c _ => PL.bind (R .block trivial) fun d _ => fun t rt => ?_) _ r.next
          exact pl_ite (fun _ => PL.bind (R .block trivial) (fun _ _ => PL.pure (pk hx)) _ rt.next) (fun _ => ⟨pk hx, rt⟩)
        refine pl_ite (fun _ => pl_ite (fun _ => PL.bind (M _) (fun _ _ => PL.pure (pk hx)) _ r.next) (fun _ => PL.bind (R .expr trivial) (fun _ _ => PL.bind (M _) fun _ _ => PL.pure (pk hx)) _ r.next)) (fun _ => ?_)
        refine pl_ite (fun _ => PL.bind Q (fun _ _ => PL.bind N fun _ _ => PL.bind (M _) fun _ _ => PL.bind (R .expr trivial) fun _ _ => PL.bind (M _) fun _ _ => PL.pure (pk hx)) _ r.next) (fun _ => ?_)
        refine pl_ite (fun _ => R (.set _) hx _ r.next) (fun _ => ?_)
        exact pl_ite (fun _ => PL.bind (R .block trivial) (fun _ _ => PL.bind (M _) fun _ _ => PL.bind N fun _ _ => PL.bind N fun _ _ => PL.bind (M _) fun _ _ => PL.bind (R .block trivial) fun _ _ => PL.pure (pk hx)) _ r.next) (fun _ => ⟨hx, ne18⟩)
    | set p => exact PL.bind (R .post trivial) fun t ht => PL.bind (M _) fun _ _ => PL.bind (R .expr trivial) fun _ _ => PL.bind (M _) fun _ _ => fun s r => pl_ite (fun _ => ⟨pk hn, r⟩) (fun _ => ⟨ht, ne18⟩)
    | expr => exact pl_down hW h0 (R (.rank 0) trivial)
    | rank k =>
      intro s r
      rw [runP]
      by_cases hk : k = 5
      · rw [if_pos hk]; exact R .un trivial s r
      · rw [if_neg hk]; exact PL.bind (R (.rank _) trivial) (fun n h => R (.ranks _ _) (by exact h)) s r
    | ranks k n =>
      intro s r
      rw [runP]
      dsimp only
      cases hf : (ranksL k).find? (fun t => aheadP s 0 t) with
      | none => exact ⟨hn, r⟩
      | some t =>
        refine PL.bind (R (.rank _) trivial) (fun a ha => ?_) _ r.next
        by_cases hk : k = 2
        · rw [if_pos hk]; exact PL.pure (pk (pl r))
        · rw [if_neg hk]; exact R (.ranks _ _) (by exact pl r)
    | un =>
      refine pl_down hW h0 fun s r => ?_
      exact pl_ite (fun _ => PL.bind (R .un trivial) (fun _ _ => PL.pure (pk (pl r))) _ r.next) (fun _ => pl_ite (fun _ => PL.bind (R .un trivial) (fun _ _ => PL.pure (pk (pl r))) _ r.next) (fun _ => R .post trivial s r))
    | list a =>
      intro s r
      rw [runP]
      refine pl_ite (fun _ => ⟨⟨Int.le_refl _, h0⟩, r.next⟩) (fun _ => ?_)
      refine PL.bind (A := fun _ => True) ?_ (fun _ _ => PL.bind (R .expr trivial) fun _ _ => R (.list _) trivial) s r
      by_cases hl : 1 < a.length
      · rw [if_pos hl]; exact M _
      · rw [if_neg hl]; exact PL.pure trivial
    | post => exact PL.bind (R .prim trivial) fun a ha => R (.posts _) (by exact ha)
    | posts n =>
      intro s r
      rw [runP]
      dsimp only
      refine pl_ite (fun _ => PL.bind N (fun _ _ => fun t rt => pl_ite (fun _ => PL.bind (R (.list _) trivial) (fun _ _ => R (.posts _) (by exact pl r)) _ rt.next) (fun _ => R (.posts _) (by exact pl r) _ rt)) _ r.next) (fun _ => ?_)
      refine pl_ite (fun _ => PL.bind (R .expr trivial) (fun _ _ => PL.bind (M _) fun _ _ => R (.posts _) (by exact pl r)) _ r.next) (fun _ => ?_)
      refine pl_ite (fun _ => PL.bind P (fun _ _ => R (.posts _) (by exact pl r)) _ r.next) (fun _ => ?_)
      exact pl_ite (fun _ => PL.bind P (fun _ _ => R (.posts _) (by exact pl r)) _ r.next) (fun _ => ⟨hn, r⟩)
    | made p =>
      intro s r
      rw [runP]
      refine pl_ite (fun _ => PL.bind N (fun _ _ => PL.bind (M _) fun _ _ => PL.pure (pk hn)) s r) (fun _ => ?_)
      exact PL.bind P (fun _ _ => PL.bind (M _) fun _ _ => PL.bind (R .expr trivial) fun _ _ => PL.bind (M _) fun _ _ => PL.pure (pk hn)) s r
    | prim =>
      intro s r
      rw [runP]
      have hx := pl r
      dsimp only
      cases hs : s.ws with
      | nil => exact ⟨hx, ne18⟩
      | cons x v =>
        refine pl_ite (fun _ => ⟨pk hx, r.next⟩) (fun _ => ?_)
        refine pl_ite (fun _ => ⟨pk hx, r.next⟩) (fun _ => ?_)
        refine pl_ite (fun _ => ⟨pk hx, r.next⟩) (fun _ => ?_)
        refine pl_ite (fun _ => PL.bind (R .expr trivial) (fun _ ha => PL.bind (M _) fun _ _ => PL.pure ha) _ r.next) (fun _ => ?_)
        refine pl_ite (fun _ => PL.bind (M _) (fun _ _ => PL.pure (pk hx)) _ r.next) (fun _ => ?_)
        refine pl_ite (fun _ => PL.bind (R .round trivial) (fun _ _ => PL.pure (pk hx)) _ r.next) (fun _ => ?_)
        refine pl_ite (fun _ => R (.made _) hx _ r.next) (fun _ => ?_)
        exact pl_ite (fun _ => ⟨pk hx, r.next⟩) (fun _ => ⟨hx, ne18⟩)
omit hW h0 in
def ParW (W : List WordD) (p : ParamD) : Prop := NameW W (p.name, p.at_)
omit hW h0 in
def MetW (W : List WordD) (m : MethodD) : Prop := NameW W (m.name, m.at_) ∧ ∀ p ∈ m.takes, ParW W p
omit hW h0 in
def ClaW (W : List WordD) (c : ClassD) : Prop := NameW W (c.name, c.at_) ∧ (∀ p ∈ c.fields, ParW W p) ∧ ∀ m ∈ c.methods, MetW W m
theorem pl_param : PL W en (ParW W) (paramP en) := PL.bind (pl_whole hW h0) fun a _ => PL.bind (pl_name hW h0) fun x hx => PL.pure hx
theorem pl_takes : ∀ k acc, (∀ p ∈ acc, ParW W p) → PL W en (fun l => ∀ p ∈ l, ParW W p) (takesP en k acc)
  | 0, acc, _ => fun s r => trivial
  | k + 1, acc, ha => fun s r => by
    rw [takesP]
    refine pl_ite (fun q => ⟨ha, r.next⟩) (fun _ => ?_)
    refine PL.bind (A := fun _ => True) ?_ (fun _ _ => PL.bind (pl_param hW h0) fun x hx => pl_takes k _ (fun p hp => by
      rcases List.mem_append.1 hp with hp | hp
      · exact ha p hp
      · simp only [List.mem_singleton] at hp; subst hp; exact hx)) s r
    by_cases hl : 0 < acc.length
    · rw [if_pos hl]; exact pl_must hW h0 _
    · rw [if_neg hl]; exact PL.pure trivial
theorem pl_method (k : Nat) : PL W en (MetW W) (methodP en k) := by
  unfold methodP
  refine PL.bind (A := fun _ => True) (fun s r => ?_) fun g _ => PL.bind (pl_name hW h0) fun x hx => PL.bind (pl_must hW h0 _) fun _ _ => PL.bind (pl_takes hW h0 k [] (fun p hp => by cases hp)) fun t ht => PL.bind (pl_run hW h0 k .block trivial) fun b _ => PL.pure ⟨hx, ht⟩
  exact pl_ite (fun q => ⟨trivial, r.next⟩) (fun _ => pl_whole hW h0 s r)
theorem pl_members (k : Nat) : ∀ m fs ms, (∀ p ∈ fs, ParW W p) → (∀ p ∈ ms, MetW W p) → PL W en (fun a => (∀ p ∈ a.1, ParW W p) ∧ ∀ p ∈ a.2, MetW W p) (membersP en k m fs ms)
  | 0, fs, ms, _, _ => fun s r => trivial
  | m + 1, fs, ms, hf, hm => fun s r => by
    rw [membersP]
    refine pl_ite (fun q => ⟨⟨hf, hm⟩, r.next⟩) (fun _ => ?_)
    refine pl_ite (fun q => ?_) (fun _ => ?_)
    · exact PL.bind (pl_param hW h0) (fun x hx => PL.bind (pl_must hW h0 _) fun _ _ => pl_members k m _ _ (fun p hp => by
        rcases List.mem_append.1 hp with hp | hp
        · exact hf p hp
        · simp only [List.mem_singleton] at hp; subst hp; exact hx) hm) _ r.next
    · exact PL.bind (pl_must hW h0 _) (fun _ _ => PL.bind (pl_method hW h0 k) fun x hx => pl_members k m _ _ hf (fun p hp => by
        rcases List.mem_append.1 hp with hp | hp
        · exact hm p hp
        · simp only [List.mem_singleton] at hp; subst hp; exact hx)) s r
theorem pl_class (k : Nat) : PL W en (ClaW W) (classP en k) := by
  unfold classP
  refine PL.bind (pl_must hW h0 _) fun _ _ => PL.bind (pl_name hW h0) fun x hx => PL.bind (A := fun _ => True) (fun s r => ?_) fun u _ => PL.bind (pl_must hW h0 _) fun _ _ => PL.bind (pl_members hW h0 k k [] [] (fun p hp => by cases hp) (fun p hp => by cases hp)) fun m hm => PL.pure ⟨hx, hm.1, hm.2⟩
  exact pl_ite (fun _ => PL.bind (pl_name hW h0) (fun _ _ => PL.pure trivial) _ r.next) (fun _ => ⟨trivial, r⟩)
theorem pl_classes (k : Nat) : ∀ m acc, (∀ c ∈ acc, ClaW W c) → PL W en (fun l => ∀ c ∈ l, ClaW W c) (classesP en k m acc)
  | 0, acc, _ => fun s r => trivial
  | m + 1, acc, ha => fun s r => by
    rw [classesP]
    exact pl_ite (fun _ => ⟨ha, r⟩) (fun _ => PL.bind (pl_class hW h0 k) (fun x hx => pl_classes k m _ (fun p hp => by
        rcases List.mem_append.1 hp with hp | hp
        · exact ha p hp
        · simp only [List.mem_singleton] at hp; subst hp; exact hx)) s r)
end
theorem parse_places (src : Bs) : match parseL src with
    | .error f => (0 ≤ f.1 ∧ f.1 ≤ src.length) ∧ f.2 ≠ 0
    | .ok l => ∀ c ∈ l, ClaW (lexL src).1 c := by
  by_cases hw : (lexL src).2.2 = 0
  · obtain ⟨r, e, p⟩ := parseL_ok (lexL_ok hw)
    rw [p]
    have hu := lexL_up src
    have := pl_classes (W := (lexL src).1) (en := src.length) hu.2 (Int.natCast_nonneg _) (stepsL (lexL src).1) ((lexL src).1.length + 1) [] (fun c hc => by cases hc) ⟨(lexL src).1, 0⟩ (fun x hx => hx)
    rw [e] at this
    rcases r with ⟨a, b⟩ | ⟨l, t⟩
    · exact this
    · exact this.1
  · unfold parseL
    rw [if_pos hw]
    exact ⟨lexL_in src, hw⟩
theorem stands_of {n : Int} {l : List WordD} (h : UpL n l) {name : Bs} {p : Int} (hn : NameW l (name, p)) : ∃ (i : Nat) (x : WordD), l[i]? = some x ∧ x.at_ = p ∧ x.kind = 1 ∧ x.text = name ∧ ∀ j y, j < i → l[j]? = some y → y.at_ ≠ p := by
  obtain ⟨x, hx, h1, h2, h3⟩ := hn
  obtain ⟨i, hi, he⟩ := List.mem_iff_getElem.1 hx
  refine ⟨i, x, by rw [List.getElem?_eq_getElem hi, he], h3, h1, h2, fun j y hj hy => ?_⟩
  obtain ⟨hj', hy'⟩ := List.getElem?_eq_some_iff.1 hy
  have := List.pairwise_iff_getElem.1 h.1 j i hj' hi hj
  rw [hy', he] at this
  have h3 : x.at_ = p := h3
  omega
end Go.Proofs.YtcaigcmbgihhkaaDoor
