/-
  A slice value that reads as a row of cells, whoever owns it.
-/
import Derived.Test.YtmlcififmjpcpaaBase
import Derived.Test.YtmlcififmjpcpaaOpens
namespace Go.Proofs.Ytmlcififmjpcpaa
open Go.RowKit

theorem addr_block (b : Addr) (j : Nat) : (b.add j).block = b.block := by unfold Addr.add; split <;> rfl
theorem addr_add_lit (g o j : Nat) : (⟨g, o, none⟩ : Addr).add j = ⟨g, o + j, none⟩ := by unfold Addr.add; split <;> simp_all
theorem addr_add0 (b : Addr) : b.add 0 = b := by unfold Addr.add; simp
theorem addr_field (ad : Addr) (m j : Nat) (hj : 0 < j) : ad.add (m + j) = ⟨(ad.add m).block, (ad.add m).off + j, none⟩ := by
  unfold Addr.add
  by_cases hm : m = 0
  · subst hm; simp; intro h; omega
  · rw [if_neg hm, if_neg (by omega)]; simp; omega

/-- The value is a slice of len elements of sz cells each; its cells are cs; they lie below n. -/
def SliceIn (n sz : Nat) (W : World) (v : Value) (len : Nat) (cs : List Value) : Prop :=
  cs.length = len * sz ∧ ∃ ao cap, v = .slice ao len cap ∧ len ≤ cap ∧ cap ≤ maxLen ∧ (ao = none → len = 0 ∧ cap = 0) ∧
    ∀ b, ao = some b → (0 < cs.length → b.block < n) ∧ ∀ j u, cs[j]? = some u → W.cell? (b.add j) = some u

theorem SliceIn.nil (n sz : Nat) (W : World) : SliceIn n sz W (.slice none 0 0) 0 [] := ⟨by simp, none, 0, rfl, Nat.le_refl _, Nat.zero_le _, fun _ => ⟨rfl, rfl⟩, fun b e => by cases e⟩
theorem SliceIn.later {n m sz len : Nat} {W W' : World} {v : Value} {cs : List Value} (h : SliceIn n sz W v len cs) (hn : n ≤ m) (hb : Below m W W') : SliceIn n sz W' v len cs := by
  obtain ⟨hl, ao, cap, rfl, h1, h2, h3, h4⟩ := h
  refine ⟨hl, ao, cap, rfl, h1, h2, h3, fun b e => ⟨(h4 b e).1, fun j u hu => ?_⟩⟩
  have hlt : 0 < cs.length := by
    have := (List.getElem?_eq_some_iff.1 hu).1
    omega
  exact (hb.cell (p := b.add j) (by rw [addr_block]; have := (h4 b e).1 hlt; omega)).trans ((h4 b e).2 j u hu)
theorem SliceIn.up {n m sz len : Nat} {W : World} {v : Value} {cs : List Value} (h : SliceIn n sz W v len cs) (hn : n ≤ m) : SliceIn m sz W v len cs := by
  obtain ⟨hl, ao, cap, rfl, h1, h2, h3, h4⟩ := h
  exact ⟨hl, ao, cap, rfl, h1, h2, h3, fun b e => ⟨fun hp => by have := (h4 b e).1 hp; omega, (h4 b e).2⟩⟩
theorem SliceIn.heap {n sz len : Nat} {W W' : World} {v : Value} {cs : List Value} (h : SliceIn n sz W v len cs) (he : W'.heap = W.heap) : SliceIn n sz W' v len cs := by
  obtain ⟨hl, ao, cap, rfl, h1, h2, h3, h4⟩ := h
  refine ⟨hl, ao, cap, rfl, h1, h2, h3, fun b e => ⟨(h4 b e).1, fun j u hu => ?_⟩⟩
  rw [show W'.cell? (b.add j) = W.cell? (b.add j) by simp only [World.cell?, he]]
  exact (h4 b e).2 j u hu
theorem SliceIn.of_own {base sz len : Nat} {e : TypeId} {W : World} {v : Value} {cs : List Value} (h : W.ownsRow base e sz v len cs) : SliceIn W.heap.size sz W v len cs := by
  obtain ⟨h1, ⟨rfl, rfl⟩ | ⟨g, cap, cur, rfl, hbg, hg, hnc, hcm, hcs, htake⟩⟩ := h
  · have : cs = [] := List.eq_nil_of_length_eq_zero (by simpa using h1)
    subst this
    exact SliceIn.nil _ _ _
  · refine ⟨h1, some ⟨g, 0, none⟩, cap, rfl, hnc, hcm, fun e => (by cases e), fun b e => ?_⟩
    cases e
    refine ⟨fun _ => (Array.getElem?_eq_some_iff.1 hg).1, fun j u hu => ?_⟩
    have hj := (List.getElem?_eq_some_iff.1 hu).1
    rw [addr_add_lit, Nat.zero_add]
    have hc : W.cell? ⟨g, j, none⟩ = cur[j]? := by simp [World.cell?, show W.heap[g]? = _ from hg]
    rw [hc, take_get htake j (by omega), hu]
/-- The j-th cell of element k. -/
theorem SliceIn.at_ {n sz len : Nat} {W : World} {v : Value} {cs : List Value} (h : SliceIn n sz W v len cs) {b : Addr} {cap k j : Nat} {u : Value} (hv : v = .slice (some b) len cap) (hu : cs[k * sz + j]? = some u) :
    W.cell? (b.add (k * sz + j)) = some u := by
  obtain ⟨hl, ao, cap', rfl, h1, h2, h3, h4⟩ := h
  cases hv
  exact (h4 b rfl).2 _ u hu
theorem SliceIn.field {n sz len : Nat} {W : World} {v : Value} {cs : List Value} (h : SliceIn n sz W v len cs) {b : Addr} {cap k j : Nat} {u : Value} (hv : v = .slice (some b) len cap) (hu : cs[k * sz + j]? = some u) (hj : 0 < j) :
    W.cell? ⟨(b.add (k * sz)).block, (b.add (k * sz)).off + j, none⟩ = some u := by
  rw [← addr_field _ _ _ hj]
  exact h.at_ hv hu
theorem SliceIn.first {n sz len : Nat} {W : World} {v : Value} {cs : List Value} (h : SliceIn n sz W v len cs) {b : Addr} {cap k : Nat} {u : Value} (hv : v = .slice (some b) len cap) (hu : cs[k * sz]? = some u) :
    W.cell? (b.add (k * sz)) = some u := h.at_ (j := 0) hv hu
theorem SliceIn.form {n sz len : Nat} {W : World} {v : Value} {cs : List Value} (h : SliceIn n sz W v len cs) : ∃ ao cap, v = .slice ao len cap ∧ len ≤ cap ∧ cap ≤ maxLen ∧ (ao = none → len = 0 ∧ cap = 0) := by
  obtain ⟨hl, ao, cap, rfl, h1, h2, h3, h4⟩ := h
  exact ⟨ao, cap, rfl, h1, h2, h3⟩
/-- With an element there is an address. -/
theorem SliceIn.some_ {n sz len : Nat} {W : World} {v : Value} {cs : List Value} (h : SliceIn n sz W v len cs) (hl : 0 < len) : ∃ b cap, v = .slice (some b) len cap ∧ len ≤ cap := by
  obtain ⟨_, ao, cap, rfl, h1, h2, h3, h4⟩ := h
  cases ao with
  | none => have := (h3 rfl).1; omega
  | some b => exact ⟨b, cap, rfl, h1⟩

theorem flatMap_len {α : Type} (f : α → List Value) (sz : Nat) (hf : ∀ x, (f x).length = sz) (xs : List α) : (xs.flatMap f).length = xs.length * sz := by
  induction xs with
  | nil => simp
  | cons x r ih => rw [List.flatMap_cons, List.length_append, ih, hf, List.length_cons]; rw [Nat.add_mul, Nat.one_mul, Nat.add_comm]
theorem flatMap_get {α : Type} (f : α → List Value) (sz : Nat) (hf : ∀ x, (f x).length = sz) : ∀ (xs : List α) (k j : Nat) (x : α), xs[k]? = some x → j < sz → (xs.flatMap f)[k * sz + j]? = (f x)[j]?
  | [], k, j, x, h, _ => by simp at h
  | y :: r, 0, j, x, h, hj => by
    simp at h
    subst h
    rw [List.flatMap_cons, Nat.zero_mul, Nat.zero_add, List.getElem?_append_left (by rw [hf]; exact hj)]
  | y :: r, k + 1, j, x, h, hj => by
    have ih := flatMap_get f sz hf r k j x (by simpa using h) hj
    rw [List.flatMap_cons, List.getElem?_append_right (by rw [hf, Nat.add_mul]; omega), hf, ← ih]
    congr 1
    rw [Nat.add_mul]
    omega

/-- What an argument read as data gives, where an element's cells are told by what it is. -/
theorem SliceIn.of_read {α : Type} {K : World → α → List Value → Prop} {sz : Nat} {W : World} {v : Value} {xs : List α} (h : RSlice K sz W v xs) (f : α → List Value) (hf : ∀ x, (f x).length = sz) (hK : ∀ x cs, K W x cs → cs = f x) :
    SliceIn W.heap.size sz W v xs.length (xs.flatMap f) := by
  rcases h with ⟨rfl, rfl⟩ | ⟨A, cap, rfl, hc, hm, hx⟩
  · exact SliceIn.nil _ _ _
  · have hcell : ∀ j u, (xs.flatMap f)[j]? = some u → W.cell? (A.add j) = some u := by
      intro j u hu
      have hj := (List.getElem?_eq_some_iff.1 hu).1
      rw [flatMap_len f sz hf] at hj
      have hsz : 0 < sz := by
        rcases Nat.eq_zero_or_pos sz with h | h
        · subst h; simp at hj
        · exact h
      have hk : j / sz < xs.length := (Nat.div_lt_iff_lt_mul hsz).2 hj
      obtain ⟨x, hxe⟩ : ∃ x, xs[j / sz]? = some x := ⟨_, List.getElem?_eq_getElem hk⟩
      obtain ⟨cs, _, hKx, hcs⟩ := hx _ _ hxe
      have e := hK x cs hKx
      subst e
      have hm' := Nat.mod_lt j hsz
      have := flatMap_get f sz hf xs (j / sz) (j % sz) x hxe hm'
      rw [Nat.mul_comm, Nat.div_add_mod] at this
      rw [this] at hu
      have hc2 := hcs _ u hu
      rwa [Nat.mul_comm, Nat.div_add_mod] at hc2
    refine ⟨flatMap_len f sz hf xs, some A, cap, rfl, hc, hm, fun e => (by cases e), fun b e => ?_⟩
    cases e
    refine ⟨fun hp => ?_, hcell⟩
    obtain ⟨u, hu⟩ : ∃ u, (xs.flatMap f)[0]? = some u := ⟨_, List.getElem?_eq_getElem hp⟩
    have := World.block_lt_of_cell? W _ (hcell 0 u hu)
    rwa [addr_add0] at this
end Go.Proofs.Ytmlcififmjpcpaa
