/-
  How an argument of a row, read as data to the bottom, is opened: whole numbers, bools, strings, slices and structs of these, each by its own law.
-/
import Derived.ChangeArms
import Derived.SizedLaws
import Derived.ProofKit
import Derived.Below
import Derived.Deep.Slices
namespace Go.Proofs.Ytmlcififmjpcpaa
open Go.RowKit

/-- A slice value over a row of elements of sz cells each, that reads as xs. -/
def RSlice {α : Type} (K : World → α → List Value → Prop) (sz : Nat) (w : World) (v : Value) (xs : List α) : Prop :=
  (v = .slice none 0 0 ∧ xs = []) ∨ ∃ A cap, v = .slice (some A) xs.length cap ∧ xs.length ≤ cap ∧ cap ≤ maxLen ∧
    ∀ j x, xs[j]? = some x → ∃ cs, cs.length = sz ∧ K w x cs ∧ ∀ i u, cs[i]? = some u → w.cell? (A.add (j * sz + i)) = some u

def Kint (k : IntKind) : World → Int → List Value → Prop := fun _ n cs => cs = [.int k n]
def Kbool : World → Bool → List Value → Prop := fun _ b cs => cs = [.bool b]
def Kstring : World → ByteArray → List Value → Prop := fun _ s cs => cs = [.string s]
def Kslice {α : Type} (K : World → α → List Value → Prop) (sz : Nat) : World → List α → List Value → Prop := fun w xs cs => ∃ v, cs = [v] ∧ RSlice K sz w v xs
def Kpair {α β : Type} (a : World → α → List Value → Prop) (b : World → β → List Value → Prop) : World → α × β → List Value → Prop := fun w x cs => ∃ c0 c1, cs = c0 ++ c1 ∧ a w x.1 c0 ∧ b w x.2 c1

/-- Whatever can be read as data at type T reads by K, and is good. -/
structure Opens {α : Type} (P : Program) (K : World → α → List Value → Prop) (sz : Nat) (T : TypeId) (good : α → Prop) : Prop where
  size : P.cellsOf T = sz
  opn : ∀ {H : Type} {enc : TypeId × Value → H} {w : World} {base : Nat} {spare : Nat → Bool} {held : Bool} {fuel : Nat} {cs : List Value} {x : DataW H × List MemPlace},
    DataW.trod enc P w base spare held fuel T cs = some x → (∀ n ∈ x.1.weights P T, n ≤ reachBytes) → ∃ y, K w y cs ∧ good y

theorem Opens.int {P : Program} {T : TypeId} {k : IntKind} (hu : P.underlying T = some (.int k)) (hc : P.cellsOf T = 1) : Opens P (Kint k) 1 T (fun n => (Lit.int k n).wf = true) :=
  ⟨hc, fun h _ => by obtain ⟨n, rfl, rfl, hw⟩ := DataW.trod_int hu h; exact ⟨n, rfl, hw⟩⟩
theorem trod_bool' {H : Type} {enc : TypeId × Value → H} {P : Program} {w : World} {base : Nat} {spare : Nat → Bool} {held : Bool} {fuel : Nat} {t : TypeId} {cs : List Value} {x : DataW H × List MemPlace} (ht : P.underlying t = some .bool) (h : DataW.trod enc P w base spare held fuel t cs = some x) : ∃ b, cs = [.bool b] := by
  cases fuel with
  | zero => simp [DataW.trod] at h
  | succ n =>
    unfold DataW.trod at h
    rw [ht] at h
    split at h <;> simp_all
theorem Opens.bool {P : Program} {T : TypeId} (hu : P.underlying T = some .bool) (hc : P.cellsOf T = 1) : Opens P Kbool 1 T (fun _ => True) :=
  ⟨hc, fun h _ => by obtain ⟨b, rfl⟩ := trod_bool' hu h; exact ⟨b, rfl, trivial⟩⟩
theorem Opens.string {P : Program} {T : TypeId} (hu : P.underlying T = some .string) (hc : P.cellsOf T = 1) : Opens P Kstring 1 T (fun s => s.size ≤ 140737488351232) :=
  ⟨hc, fun h hw => by
    obtain ⟨s, rfl, rfl, _⟩ := DataW.trod_string hu h
    refine ⟨s, rfl, ?_⟩
    have := hw s.data.toList.length (by simp [DataW.weights])
    rw [Array.length_toList] at this
    exact this⟩

theorem weightsAll_mem {H : Type} {P : Program} {e : TypeId} : ∀ {ds : List (DataW H)} {d : DataW H}, d ∈ ds → ∀ n ∈ d.weights P e, n ∈ DataW.weightsAll P e ds
  | d0 :: r, d, hd, n, hn => by
    simp only [DataW.weightsAll, List.mem_append]
    rcases List.mem_cons.1 hd with rfl | h
    · exact .inl hn
    · exact .inr (weightsAll_mem h n hn)

theorem Opens.slice {α : Type} {P : Program} {K : World → α → List Value → Prop} {sz : Nat} {T E : TypeId} {good : α → Prop} (he : Opens P K sz E good) (hu : P.underlying T = some (.slice E)) (hc : P.cellsOf T = 1) :
    Opens P (Kslice K sz) 1 T (fun xs => xs.length * P.bytesOf E ≤ 140737488351232 ∧ ∀ x ∈ xs, good x) := by
  refine ⟨hc, fun {H enc w base spare held fuel cs x} h hw => ?_⟩
  rcases DataW.trod_slice hu h with ⟨rfl, rfl⟩ | ⟨a, len, cap, elems, rest, n, rfl, rfl, rfl, hb, hl, hm, hlen, hel, hsp, hns⟩
  · exact ⟨[], ⟨_, rfl, .inl ⟨rfl, rfl⟩⟩, by simp, by simp⟩
  have hall : ∀ m ∈ DataW.weightsAll P E (elems.map (·.1)), m ≤ reachBytes := fun m hm' => hw m (by simp only [DataW.weights, hu]; exact List.mem_cons_of_mem _ (List.mem_append_left _ hm'))
  have hey : ∀ i, i < len → ∃ y cs', w.cells? base (a.add (i * P.cellsOf E)) (P.cellsOf E) = some cs' ∧ K w y cs' ∧ good y := by
    intro i hi
    have hx := hel i hi
    rw [List.getElem?_eq_getElem (by omega)] at hx
    obtain ⟨cs', h1, h2⟩ := Option.bind_eq_some_iff.1 hx
    obtain ⟨y, h3, h4⟩ := he.opn h2 (fun m hm' => hall m (weightsAll_mem (List.mem_map_of_mem (List.getElem_mem _)) m hm'))
    exact ⟨y, cs', h1, h3, h4⟩
  classical
  have hch : ∃ f : Nat → Option α, ∀ i, i < len → ∃ y cs', f i = some y ∧ w.cells? base (a.add (i * P.cellsOf E)) (P.cellsOf E) = some cs' ∧ K w y cs' ∧ good y := by
    refine ⟨fun i => if hi : i < len then some (Classical.choose (hey i hi)) else none, fun i hi => ?_⟩
    obtain ⟨cs', h1, h2, h3⟩ := Classical.choose_spec (hey i hi)
    exact ⟨_, cs', by simp only [dif_pos hi], h1, h2, h3⟩
  obtain ⟨f, hf⟩ := hch
  have hys : ∀ m, m ≤ len → ∃ ys : List α, ys.length = m ∧ ∀ j y, ys[j]? = some y → f j = some y := by
    intro m
    induction m with
    | zero => exact fun _ => ⟨[], rfl, fun j y h => by simp at h⟩
    | succ m ih =>
      intro hm'
      obtain ⟨ys, h1, h2⟩ := ih (by omega)
      obtain ⟨y, _, h3, _⟩ := hf m (by omega)
      refine ⟨ys ++ [y], by simp [h1], fun j z hz => ?_⟩
      rcases Nat.lt_or_ge j m with hj | hj
      · rw [List.getElem?_append_left (by omega)] at hz; exact h2 j z hz
      · rw [List.getElem?_append_right (by omega)] at hz
        have : j = m := by have := (List.getElem?_eq_some_iff.1 hz).1; simp at this; omega
        subst this
        rw [h1, Nat.sub_self] at hz
        simp at hz
        rw [← hz]; exact h3
  obtain ⟨ys, hyl, hyg⟩ := hys len (Nat.le_refl _)
  have hat : ∀ j y, ys[j]? = some y → ∃ cs', w.cells? base (a.add (j * P.cellsOf E)) (P.cellsOf E) = some cs' ∧ K w y cs' ∧ good y := by
    intro j y hy
    have hj : j < len := by have := (List.getElem?_eq_some_iff.1 hy).1; omega
    obtain ⟨y', cs', h1, h2⟩ := hf j hj
    rw [hyg j y hy] at h1
    cases h1
    exact ⟨cs', h2⟩
  refine ⟨ys, ⟨_, rfl, .inr ⟨a, cap, by rw [hyl], by omega, hm, fun j y hy => ?_⟩⟩, ?_, ?_⟩
  · obtain ⟨cs', h1, h2, _⟩ := hat j y hy
    obtain ⟨_, h3, h4⟩ := World.cells?_some h1
    refine ⟨cs', by rw [h3, he.size], h2, fun i u hu' => ?_⟩
    have hi : i < P.cellsOf E := by have := (List.getElem?_eq_some_iff.1 hu').1; omega
    have := h4 i hi
    rw [he.size, Go.Deep.add_add] at this
    rw [this, hu']
  · have := hw ((elems.length + rest.length) * P.bytesOf E) (by simp [DataW.weights, hu])
    have h2 : len * P.bytesOf E ≤ (elems.length + rest.length) * P.bytesOf E := Nat.mul_le_mul_right _ (by omega)
    rw [hyl]
    exact Nat.le_trans h2 this
  · intro y hy
    obtain ⟨j, hj, rfl⟩ := List.getElem_of_mem hy
    obtain ⟨_, _, _, h⟩ := hat j _ (List.getElem?_eq_getElem hj)
    exact h

/-- A struct's fields from a cell on. -/
structure OpensFields {α : Type} (P : Program) (K : World → α → List Value → Prop) (off : Nat) (sz : Nat) (fs : List Field) (good : α → Prop) : Prop where
  opn : ∀ {H : Type} {enc : TypeId × Value → H} {w : World} {base : Nat} {spare : Nat → Bool} {held : Bool} {fuel : Nat} {cs : List Value} {xs : List (DataW H × List MemPlace)},
    cs.length = off + sz → xs.length = fs.length → (∀ (i : Nat) (f : Field), fs[i]? = some f → DataW.trod enc P w base spare held fuel f.type ((cs.drop f.offset).take (P.cellsOf f.type)) = xs[i]?) →
    (∀ n ∈ DataW.weightsEach P (fs.map (·.type)) (xs.map (·.1)), n ≤ reachBytes) → ∃ y, K w y (cs.drop off) ∧ good y
theorem OpensFields.one {α : Type} {P : Program} {K : World → α → List Value → Prop} {off sz : Nat} {f : Field} {good : α → Prop} (h : Opens P K sz f.type good) (ho : f.offset = off) : OpensFields P K off sz [f] good := by
  refine ⟨fun {H enc w base spare held fuel cs xs} hl hx hf hw => ?_⟩
  obtain ⟨x, rfl⟩ : ∃ x, xs = [x] := List.length_eq_one_iff.1 hx
  have h0 := hf 0 f rfl
  rw [ho, h.size, List.take_of_length_le (by simp; omega)] at h0
  exact h.opn h0 (fun n hn => hw n (by simp [DataW.weightsEach]; exact hn))
theorem OpensFields.cons {α β : Type} {P : Program} {K : World → α → List Value → Prop} {K2 : World → β → List Value → Prop} {off sz sz2 : Nat} {f : Field} {fs : List Field} {good : α → Prop} {good2 : β → Prop}
    (h : Opens P K sz f.type good) (ho : f.offset = off) (h2 : OpensFields P K2 (off + sz) sz2 fs good2) : OpensFields P (Kpair K K2) off (sz + sz2) (f :: fs) (fun y => good y.1 ∧ good2 y.2) := by
  refine ⟨fun {H enc w base spare held fuel cs xs} hl hx hf hw => ?_⟩
  obtain ⟨x, r, rfl⟩ : ∃ x r, xs = x :: r := by cases xs with | nil => simp at hx | cons x r => exact ⟨x, r, rfl⟩
  have h0 := hf 0 f rfl
  rw [ho, h.size] at h0
  obtain ⟨y, h3, h4⟩ := h.opn h0 (fun n hn => hw n (by simp only [List.map_cons, DataW.weightsEach]; exact List.mem_append_left _ hn))
  obtain ⟨z, h5, h6⟩ := h2.opn (cs := cs) (xs := r) (by omega) (by simpa using hx) (fun i g hg => by simpa using hf (i + 1) g (by simpa using hg)) (fun n hn => hw n (by simp only [List.map_cons, DataW.weightsEach]; exact List.mem_append_right _ hn))
  refine ⟨(y, z), ⟨_, _, ?_, h3, h5⟩, h4, h6⟩
  rw [← List.drop_drop, List.take_append_drop]
/-- A struct, as a Lean structure. -/
theorem Opens.struct {α β : Type} {P : Program} {K : World → α → List Value → Prop} {sz : Nat} {T : TypeId} {fs : Array Field} {good : α → Prop} (h : OpensFields P K 0 sz fs.toList good) (hu : P.underlying T = some (.struct fs)) (hc : P.cellsOf T = sz) (f : β → α) (g : α → β) (hfg : ∀ a, f (g a) = a) :
    Opens P (fun w x cs => K w (f x) cs) sz T (fun x => good (f x)) := by
  refine ⟨hc, fun {H enc w base spare held fuel cs x} hx hw => ?_⟩
  obtain ⟨xs, n, rfl, rfl, hl, hlen, hf⟩ := DataW.trod_struct hu hx
  obtain ⟨y, h1, h2⟩ := h.opn (cs := cs) (xs := xs) (by omega) (by simpa using hlen) (fun i f hi => hf i f (by simpa using hi)) (fun n hn => hw n (by simp only [DataW.weights, hu]; exact hn))
  exact ⟨g y, by rw [hfg]; simpa using h1, by rw [hfg]; exact h2⟩

/-- From the row's own words: an argument that is a slice. -/
theorem sized_at {H : Type} {P : Program} {ts : List TypeId} {ds : List (DataW H)} (hsz : (DataW.weightsEach P ts ds).all (· ≤ reachBytes) = true) {j : Nat} {t : TypeId} {d : DataW H} (ht : ts[j]? = some t) (hd : ds[j]? = some d) : ∀ n ∈ d.weights P t, n ≤ reachBytes := fun n hn => by
  have := List.all_eq_true.1 hsz n (DataW.weights_mem_each ht hd n hn)
  simpa using this
theorem Opens.argSlice {α : Type} {P : Program} {K : World → α → List Value → Prop} {sz : Nat} {T E : TypeId} {good : List α → Prop} (h : Opens P (Kslice K sz) 1 T good) (hu : P.underlying T = some (.slice E)) {H : Type} {enc : TypeId × Value → H} {w : World} {m : _} {base b2 : Nat} {spare : Nat → Bool} {held : Bool} {v : Value} {d : DataW H} {ps : List MemPlace}
    (hv : Value.okWide P w m b2 T v) (ht : DataW.Trod enc P w base spare held T v d ps) (hw : ∀ n ∈ d.weights P T, n ≤ reachBytes) : ∃ xs, RSlice K sz w v xs ∧ good xs := by
  obtain ⟨a, len, cap, rfl⟩ := Go.WideShapes.okWide_slice hu hv
  obtain ⟨fuel, hf⟩ := ht
  obtain ⟨xs, ⟨v, hv', hr⟩, hg⟩ := h.opn hf hw
  simp [Value.cells] at hv'
  subst hv'
  exact ⟨xs, hr, hg⟩
end Go.Proofs.Ytmlcififmjpcpaa
