/-
  Part of a proof: Bytes, Base, Opens, SliceIn, BytesIn, Own.
-/
import Derived.Laws.Bits64
import Derived.Lib.Hide
import Derived.RowKit
import Derived.RangeFuncBox
import Derived.Laws.IdiomCopy
import Derived.Lib.SliceRun
import Derived.Below
import Derived.Deep.Draws
import Derived.Maps.AppendAt
import Derived.ChangeArms
import Derived.SizedLaws
import Derived.ProofKit
import Derived.Deep.Slices
import Derived.Laws.IdiomStrings
import Derived.WalkKit
import Derived.KernelRfl
import Derived.Test.YtcaigcmbgihhkaaGreatDoorProg
namespace Go.Proofs.YtcaigcmbgihhkaaGreatDoor
open Go Go.RowKit
def bcells (xs : List UInt8) : List Value := xs.map fun b => .int .u8 (b.toNat : Int)
theorem bcells_length (xs : List UInt8) : (bcells xs).length = xs.length := by simp [bcells]
theorem bcells_append (xs ys : List UInt8) : bcells (xs ++ ys) = bcells xs ++ bcells ys := by simp [bcells]
theorem ofNat_toNat {k : Nat} (h : k < 256) : (((UInt8.ofNat k).toNat : Nat) : Int) = (k : Int) := by
  simp [UInt8.toNat_ofNat']
  omega
end Go.Proofs.YtcaigcmbgihhkaaGreatDoor
namespace Go.Proofs.YtcaigcmbgihhkaaGreatDoor
open Go.RowKit
def Blk (W : World) (B : Nat) (t : TypeId) (cs : Array Value) : Prop := W.heap[B]? = some (.cells cs t (0, 0))
theorem Blk.lt {W : World} {B : Nat} {t : TypeId} {cs : Array Value} (h : Blk W B t cs) : B < W.heap.size := (Array.getElem?_eq_some_iff.1 h).1
theorem Blk.cell {W : World} {B : Nat} {t : TypeId} {cs : Array Value} (h : Blk W B t cs) (i : Nat) : W.cell? ⟨B, i, none⟩ = cs[i]? := by simp [World.cell?, show W.heap[B]? = _ from h]
theorem Blk.frozen {W : World} {B : Nat} {t : TypeId} {cs : Array Value} (h : Blk W B t cs) (i : Nat) : W.frozen? ⟨B, i, none⟩ = false := by simp [World.frozen?, show W.heap[B]? = _ from h]
theorem Blk.new (W : World) (t : TypeId) (cs : Array Value) : Blk (W.alloc (.cells cs t)) W.heap.size t cs := World.alloc_heap_new W _
theorem Blk.kept {W W' : World} {row : Option Nat} {B : Nat} {t : TypeId} {cs : Array Value} (h : Blk W B t cs) (hg : W.grownBy W' row) (hne : some B ≠ row) : Blk W' B t cs := (hg.block B h.lt hne).trans h
theorem Blk.alloc {W : World} {B : Nat} {t : TypeId} {cs : Array Value} (h : Blk W B t cs) (o : Obj) : Blk (W.alloc o) B t cs := h.kept (World.grownBy_alloc W o none) (by simp)
theorem Blk.below {W W' : World} {n : Nat} {B : Nat} {t : TypeId} {cs : Array Value} (h : Blk W B t cs) (hb : Below n W W') (hB : B < n) : Blk W' B t cs := (hb.block B hB).trans h
theorem Blk.other {W : World} {B B' : Nat} {t : TypeId} {cs : Array Value} (h : Blk W B t cs) (hne : B ≠ B') (i : Nat) (u : Value) : Blk (W.setCell ⟨B', i, none⟩ u) B t cs := (Below.heap_setCell W ⟨B', i, none⟩ u B hne).trans h
theorem Blk.set {W : World} {B : Nat} {t : TypeId} {cs : Array Value} (h : Blk W B t cs) (i : Nat) (u : Value) : Blk (W.setCell ⟨B, i, none⟩ u) B t (cs.setIfInBounds i u) := by
  obtain ⟨hlt, hk⟩ := Array.getElem?_eq_some_iff.1 h
  show (W.heap.modify B _)[B]? = _
  rw [Array.getElem?_eq_getElem (by rw [Array.size_modify]; exact hlt), Array.getElem_modify_self, hk]
  rfl
theorem Blk.drew {W : World} {B : Nat} {t : TypeId} {cs : Array Value} (h : Blk W B t cs) : Blk W.drew B t cs := h
theorem Blk.drewN {W : World} {B : Nat} {t : TypeId} {cs : Array Value} (h : Blk W B t cs) (n : Nat) : Blk (W.drewN n) B t cs := h
theorem Blk.ne {W : World} {B B' : Nat} {t t' : TypeId} {cs cs' : Array Value} (h : Blk W B t cs) (h' : Blk W B' t' cs') (hne : t ≠ t') : B ≠ B' := by
  intro e; subst e
  have := (show W.heap[B]? = _ from h).symm.trans h'
  simp at this
  exact hne this.2
theorem blk_own {β : Type} (B : Nat) (t : TypeId) (f : β → Array Value) : Own (fun s W => Blk W B t (f s)) := fun s X Y row hs hg hrow =>
  hs.kept hg (fun e' => by obtain ⟨o, ho, hc⟩ := hrow B e'.symm; rw [show X.heap[B]? = _ from hs] at ho; cases ho; cases hc)
def splice : Array Value → Nat → List Value → Array Value
  | cur, _, [] => cur
  | cur, o, v :: r => splice (cur.setIfInBounds o v) (o + 1) r
theorem Blk.setCells : ∀ (vs : List Value) (o : Nat) {W : World} {B : Nat} {t : TypeId} {cs : Array Value}, Blk W B t cs → Blk (W.setCells B o vs) B t (splice cs o vs)
  | [], _, _, _, _, _, h => h
  | v :: r, o, _, _, _, _, h => Blk.setCells r (o + 1) (h.set o v)
theorem splice_list : ∀ (vs : List Value) (cur : Array Value) (o : Nat), o + vs.length ≤ cur.size → (splice cur o vs).toList = cur.toList.take o ++ vs ++ cur.toList.drop (o + vs.length)
  | [], cur, o, _ => by simp [splice]
  | v :: r, cur, o, h => by
    simp only [List.length_cons] at h
    rw [splice, splice_list r _ (o + 1) (by rw [Array.size_setIfInBounds]; omega), Array.toList_setIfInBounds]
    have hlt : o < cur.toList.length := by simp; omega
    rw [List.take_set, List.drop_set]
    rw [if_pos (by omega), List.take_succ_eq_append_getElem hlt]
    have e : (cur.toList.take o ++ [cur.toList[o]]).set o v = cur.toList.take o ++ [v] := by
      rw [List.set_append_right _ _ (by simp; omega)]
      have : o - (cur.toList.take o).length = 0 := by simp; omega
      rw [this]; rfl
    rw [e, List.length_cons, show o + (r.length + 1) = o + 1 + r.length by omega]
    simp
theorem heap_setCells (g o : Nat) (vs : List Value) (W : World) (k : Nat) (hk : k ≠ g) : (W.setCells g o vs).heap[k]? = W.heap[k]? := by
  induction vs generalizing o W with
  | nil => rfl
  | cons v r ih => rw [World.setCells, ih, Below.heap_setCell W ⟨g, o, none⟩ v k hk]
theorem size_setCells (g o : Nat) (vs : List Value) (W : World) : (W.setCells g o vs).heap.size = W.heap.size := by
  induction vs generalizing o W with
  | nil => rfl
  | cons v r ih => rw [World.setCells, ih]; simp [World.setCell]
theorem grownBy_setCells (W : World) (g o : Nat) (vs : List Value) : W.grownBy (W.setCells g o vs) (some g) := by
  induction vs generalizing o W with
  | nil => exact ⟨rfl, rfl, rfl, Nat.le_refl _, fun _ _ _ => rfl⟩
  | cons v r ih =>
    have h := ih (W.setCell ⟨g, o, none⟩ v) (o + 1)
    refine ⟨h.os, h.tape, h.output, Nat.le_trans (by simp [World.setCell]) h.size, fun k hk hne => ?_⟩
    exact (h.block k (by simpa [World.setCell] using hk) hne).trans (Below.heap_setCell W ⟨g, o, none⟩ v k (fun e => hne (by rw [e])))
structure Touch (S : Nat → Prop) (w w' : World) : Prop where
  os : w'.os = w.os
  tape : w'.tape = w.tape
  output : w'.output = w.output
  size : w.heap.size ≤ w'.heap.size
  block : ∀ k, k < w.heap.size → ¬ S k → w'.heap[k]? = w.heap[k]?
theorem Touch.refl (S : Nat → Prop) (w : World) : Touch S w w := ⟨rfl, rfl, rfl, Nat.le_refl _, fun _ _ _ => rfl⟩
theorem pw_below_drewN {B : Nat} {w W : World} (h : Below B w W) (n : Nat) : Below B w (W.drewN n) := ⟨h.os, h.tape, h.output, h.size, h.block⟩
def grow (S : Nat → Prop) (w w' : World) (k : Nat) : Prop := S k ∨ (w.heap.size ≤ k ∧ k < w'.heap.size)
theorem Touch.trans {S T : Nat → Prop} {a b c : World} (h : Touch S a b) (k : Touch T b c) (hT : ∀ i, T i → grow S a b i) : Touch S a c :=
  ⟨k.os.trans h.os, k.tape.trans h.tape, k.output.trans h.output, Nat.le_trans h.size k.size, fun i hi hS => (k.block i (Nat.lt_of_lt_of_le hi h.size) (fun ht => by rcases hT i ht with h1 | h1; exact hS h1; omega)).trans (h.block i hi hS)⟩
theorem Touch.of_below {S : Nat → Prop} {w w' : World} (h : Below w.heap.size w w') : Touch S w w' := ⟨h.os, h.tape, h.output, h.size, fun k hk _ => h.block k hk⟩
theorem Touch.of_grownBy {S : Nat → Prop} {w w' : World} {row : Option Nat} (h : w.grownBy w' row) (hr : ∀ k, row = some k → k < w.heap.size → S k) : Touch S w w' :=
  ⟨h.os, h.tape, h.output, h.size, fun k hk hS => h.block k hk (fun e => hS (hr k e.symm hk))⟩
theorem Touch.mono {S T : Nat → Prop} {w w' : World} (h : Touch S w w') (hST : ∀ k, k < w.heap.size → S k → T k) : Touch T w w' := ⟨h.os, h.tape, h.output, h.size, fun k hk hT => h.block k hk (fun hs => hT (hST k hk hs))⟩
theorem Touch.setCell {S : Nat → Prop} {a w : World} (h : Touch S a w) {p : Addr} (hp : grow S a w p.block) (u : Value) : Touch S a (w.setCell p u) :=
  ⟨h.os, h.tape, h.output, Nat.le_trans h.size (by simp [World.setCell]), fun k hk hS => (Below.heap_setCell w p u k (fun e => by subst e; rcases hp with h1 | h1; exact hS h1; omega)).trans (h.block k hk hS)⟩
theorem Touch.alloc {S : Nat → Prop} {a w : World} (h : Touch S a w) (o : Obj) : Touch S a (w.alloc o) :=
  ⟨h.os, h.tape, h.output, Nat.le_trans h.size (by simp), fun k hk hS => (Below.heap_alloc w o k (Nat.lt_of_lt_of_le hk h.size)).trans (h.block k hk hS)⟩
theorem Touch.drew {S : Nat → Prop} {a w : World} (h : Touch S a w) : Touch S a w.drew := ⟨h.os, h.tape, h.output, h.size, h.block⟩
theorem Touch.drewN {S : Nat → Prop} {a w : World} (h : Touch S a w) (n : Nat) : Touch S a (w.drewN n) := ⟨h.os, h.tape, h.output, h.size, h.block⟩
theorem Touch.step {S : Nat → Prop} {a b c : World} (h : Touch S a b) (k : Below b.heap.size b c) : Touch S a c := h.trans (Touch.of_below (S := fun _ => False) k) (fun _ hf => hf.elim)
theorem Touch.grown {S : Nat → Prop} {a b c : World} {row : Option Nat} (h : Touch S a b) (k : b.grownBy c row) (hr : ∀ i, row = some i → grow S a b i) : Touch S a c := by
  refine h.trans (T := fun i => row = some i) (Touch.of_grownBy k (fun i e _ => e)) (fun i e => hr i e)
theorem Touch.below {S : Nat → Prop} {a b : World} (h : Touch S a b) {n : Nat} (hn : n ≤ a.heap.size) (hS : ∀ k, S k → n ≤ k) : Below n a b :=
  ⟨h.os, h.tape, h.output, h.size, fun k hk => h.block k (by omega) (fun hs => by have := hS k hs; omega)⟩
theorem Blk.touch {S : Nat → Prop} {W W' : World} {B : Nat} {t : TypeId} {cs : Array Value} (h : Blk W B t cs) (hb : Touch S W W') (hB : ¬ S B) : Blk W' B t cs := (hb.block B h.lt hB).trans h
def RowAt (W : World) (S : Nat → Prop) (e : TypeId) (size : Nat) (v : Value) (n : Nat) (xs : List Value) : Prop := W.ownsRow 0 e size v n xs ∧ ∀ k, v.ownBlock = some k → S k
theorem RowAt.mono {W : World} {S T : Nat → Prop} {e : TypeId} {size n : Nat} {v : Value} {xs : List Value} (h : RowAt W S e size v n xs) (hST : ∀ k, S k → T k) : RowAt W T e size v n xs := ⟨h.1, fun k hk => hST k (h.2 k hk)⟩
theorem RowAt.touch {W W' : World} {S T : Nat → Prop} {e : TypeId} {size n : Nat} {v : Value} {xs : List Value} (h : RowAt W S e size v n xs) (ht : Touch T W W') (hd : ∀ k, S k → T k → False) : RowAt W' S e size v n xs := by
  refine ⟨?_, h.2⟩
  obtain ⟨h1, h2⟩ := h.1
  refine ⟨h1, ?_⟩
  rcases h2 with h2 | ⟨g, cap, cur, hv, hg, hh, r⟩
  · exact .inl h2
  · refine .inr ⟨g, cap, cur, hv, hg, ?_, r⟩
    rw [ht.block g (Array.getElem?_eq_some_iff.1 hh).1 (fun hT => hd g (h.2 g (by rw [hv]; rfl)) hT)]
    exact hh
theorem RowAt.below {W W' : World} {S : Nat → Prop} {e : TypeId} {size n : Nat} {v : Value} {xs : List Value} (h : RowAt W S e size v n xs) (hb : Below W.heap.size W W') : RowAt W' S e size v n xs :=
  h.touch (Touch.of_below (S := fun _ => False) hb) (fun _ _ hf => hf)
theorem take_get {cur : Array Value} {k : Nat} {xs : List Value} (h : cur.toList.take k = xs) (i : Nat) (hi : i < k) : cur[i]? = xs[i]? := by
  rw [← h, List.getElem?_take_of_lt hi, Array.getElem?_toList]
theorem RowAt.appended {w1 w2 : World} {S : Nat → Prop} {e : TypeId} {size n m : Nat} {v v' : Value} {xs ys : List Value} {tmp : Obj} (hr : RowAt w1 S e size v n xs) (hown' : w2.ownsRow 0 e size v' m ys) (hgrow : (w1.alloc tmp).grownBy w2 v.ownBlock)
    (hat : v'.ownBlock = v.ownBlock ∨ v'.ownBlock = some (w1.alloc tmp).heap.size) : RowAt w2 (grow S w1 w2) e size v' m ys ∧ Touch S w1 w2 := by
  refine ⟨⟨hown', fun k hk => ?_⟩, ?_⟩
  · rcases hat with h | h
    · exact .inl (hr.2 k (by rw [← h]; exact hk))
    · have := (hown'.lt k hk).2
      rw [hk] at h
      simp at h
      exact .inr ⟨by omega, this⟩
  · exact ((Touch.refl S w1).alloc tmp).grown hgrow (fun i hi => .inl (hr.2 i hi))
end Go.Proofs.YtcaigcmbgihhkaaGreatDoor
namespace Go.Proofs.YtcaigcmbgihhkaaGreatDoor
open Go.RowKit
def RSlice {α : Type} (K : World → α → List Value → Prop) (sz : Nat) (w : World) (v : Value) (xs : List α) : Prop :=
  (v = .slice none 0 0 ∧ xs = []) ∨ ∃ A cap, v = .slice (some A) xs.length cap ∧ xs.length ≤ cap ∧ cap ≤ maxLen ∧
    ∀ j x, xs[j]? = some x → ∃ cs, cs.length = sz ∧ K w x cs ∧ ∀ i u, cs[i]? = some u → w.cell? (A.add (j * sz + i)) = some u
def Kint (k : IntKind) : World → Int → List Value → Prop := fun _ n cs => cs = [.int k n]
def Kbool : World → Bool → List Value → Prop := fun _ b cs => cs = [.bool b]
def Kstring : World → ByteArray → List Value → Prop := fun _ s cs => cs = [.string s]
def Kslice {α : Type} (K : World → α → List Value → Prop) (sz : Nat) : World → List α → List Value → Prop := fun w xs cs => ∃ v, cs = [v] ∧ RSlice K sz w v xs
def Kpair {α β : Type} (a : World → α → List Value → Prop) (b : World → β → List Value → Prop) : World → α × β → List Value → Prop := fun w x cs => ∃ c0 c1, cs = c0 ++ c1 ∧ a w x.1 c0 ∧ b w x.2 c1
structure Opens {α : Type} (P : Program) (K : World → α → List Value → Prop) (sz : Nat) (T : TypeId) (good : α → Prop) : Prop where
  size : P.cellsOf T = sz
  opn : ∀ {H : Type} {enc : TypeId × Value → H} {w : World} {base : Nat} {spare : Nat → Bool} {held : Bool} {fuel : Nat} {cs : List Value} {x : DataW H × List MemPlace},
    DataW.trod enc P w base spare held fuel T cs = some x → (∀ n ∈ x.1.weights P T, n ≤ reachBytes) → ∃ y, K w y cs ∧ good y
theorem Opens.int {P : Program} {T : TypeId} {k : IntKind} (hu : P.underlying T = some (.int k)) (hc : P.cellsOf T = 1) : Opens P (Kint k) 1 T (fun n => (Lit.int k n).wf = true) :=
  ⟨hc, fun h _ => by obtain ⟨n, rfl, rfl, hw⟩ := DataW.trod_int hu h; exact ⟨n, rfl, hw⟩⟩
theorem trod_bool' {H : Type} {enc : TypeId × Value → H} {P : Program} {w : World} {base : Nat} {spare : Nat → Bool} {held : Bool} {fuel : Nat} {t : TypeId} {cs : List Value} {x : DataW H × List MemPlace} (ht : P.underlying t = some .bool) (h : DataW.trod enc P w base spare held fuel t cs = some x) : ∃ b, cs = [.bool b] := by
  cases fuel with
  | zero => simp [DataW.trod] at h
  | succ n =>
    unfold DataW.trod at h
    rw [ht] at h
    split at h <;> simp_all
theorem Opens.bool {P : Program} {T : TypeId} (hu : P.underlying T = some .bool) (hc : P.cellsOf T = 1) : Opens P Kbool 1 T (fun _ => True) :=
  ⟨hc, fun h _ => by obtain ⟨b, rfl⟩ := trod_bool' hu h; exact ⟨b, rfl, trivial⟩⟩
theorem Opens.string {P : Program} {T : TypeId} (hu : P.underlying T = some .string) (hc : P.cellsOf T = 1) : Opens P Kstring 1 T (fun s => s.size ≤ 140737488351232) :=
  ⟨hc, fun h hw => by
    obtain ⟨s, rfl, rfl, _⟩ := DataW.trod_string hu h
    refine ⟨s, rfl, ?_⟩
    have := hw s.data.toList.length (by simp [DataW.weights])
    rw [Array.length_toList] at this
    exact this⟩
theorem weightsAll_mem {H : Type} {P : Program} {e : TypeId} : ∀ {ds : List (DataW H)} {d : DataW H}, d ∈ ds → ∀ n ∈ d.weights P e, n ∈ DataW.weightsAll P e ds
  | d0 :: r, d, hd, n, hn => by
    simp only [DataW.weightsAll, List.mem_append]
    rcases List.mem_cons.1 hd with rfl | h
    · exact .inl hn
    · exact .inr (weightsAll_mem h n hn)
theorem Opens.slice {α : Type} {P : Program} {K : World → α → List Value → Prop} {sz : Nat} {T E : TypeId} {good : α → Prop} (he : Opens P K sz E good) (hu : P.underlying T = some (.slice E)) (hc : P.cellsOf T = 1) :
    Opens P (Kslice K sz) 1 T (fun xs => xs.length * P.bytesOf E ≤ 140737488351232 ∧ ∀ x ∈ xs, good x) := by
  refine ⟨hc, fun {H enc w base spare held fuel cs x} h hw => ?_⟩
  rcases DataW.trod_slice hu h with ⟨rfl, rfl⟩ | ⟨a, len, cap, elems, rest, n, rfl, rfl, rfl, hb, hl, hm, hlen, hel, hsp, hns⟩
  · exact ⟨[], ⟨_, rfl, .inl ⟨rfl, rfl⟩⟩, by simp, by simp⟩
  have hall : ∀ m ∈ DataW.weightsAll P E (elems.map (·.1)), m ≤ reachBytes := fun m hm' => hw m (by simp only [DataW.weights, hu]; exact List.mem_cons_of_mem _ (List.mem_append_left _ hm'))
  have hey : ∀ i, i < len → ∃ y cs', w.cells? base (a.add (i * P.cellsOf E)) (P.cellsOf E) = some cs' ∧ K w y cs' ∧ good y := by
    intro i hi
    have hx := hel i hi
    rw [List.getElem?_eq_getElem (by omega)] at hx
    obtain ⟨cs', h1, h2⟩ := Option.bind_eq_some_iff.1 hx
    obtain ⟨y, h3, h4⟩ := he.opn h2 (fun m hm' => hall m (weightsAll_mem (List.mem_map_of_mem (List.getElem_mem _)) m hm'))
    exact ⟨y, cs', h1, h3, h4⟩
  classical
  have hch : ∃ f : Nat → Option α, ∀ i, i < len → ∃ y cs', f i = some y ∧ w.cells? base (a.add (i * P.cellsOf E)) (P.cellsOf E) = some cs' ∧ K w y cs' ∧ good y := by
    refine ⟨fun i => if hi : i < len then some (Classical.choose (hey i hi)) else none, fun i hi => ?_⟩
    obtain ⟨cs', h1, h2, h3⟩ := Classical.choose_spec (hey i hi)
    exact ⟨_, cs', by simp only [dif_pos hi], h1, h2, h3⟩
  obtain ⟨f, hf⟩ := hch
  have hys : ∀ m, m ≤ len → ∃ ys : List α, ys.length = m ∧ ∀ j y, ys[j]? = some y → f j = some y := by
    intro m
    induction m with
    | zero => exact fun _ => ⟨[], rfl, fun j y h => by simp at h⟩
    | succ m ih =>
      intro hm'
      obtain ⟨ys, h1, h2⟩ := ih (by omega)
      obtain ⟨y, _, h3, _⟩ := hf m (by omega)
      refine ⟨ys ++ [y], by simp [h1], fun j z hz => ?_⟩
      rcases Nat.lt_or_ge j m with hj | hj
      · rw [List.getElem?_append_left (by omega)] at hz; exact h2 j z hz
      · rw [List.getElem?_append_right (by omega)] at hz
        have : j = m := by have := (List.getElem?_eq_some_iff.1 hz).1; simp at this; omega
        subst this
        rw [h1, Nat.sub_self] at hz
        simp at hz
        rw [← hz]; exact h3
  obtain ⟨ys, hyl, hyg⟩ := hys len (Nat.le_refl _)
  have hat : ∀ j y, ys[j]? = some y → ∃ cs', w.cells? base (a.add (j * P.cellsOf E)) (P.cellsOf E) = some cs' ∧ K w y cs' ∧ good y := by
    intro j y hy
    have hj : j < len := by have := (List.getElem?_eq_some_iff.1 hy).1; omega
    obtain ⟨y', cs', h1, h2⟩ := hf j hj
    rw [hyg j y hy] at h1
    cases h1
    exact ⟨cs', h2⟩
  refine ⟨ys, ⟨_, rfl, .inr ⟨a, cap, by rw [hyl], by omega, hm, fun j y hy => ?_⟩⟩, ?_, ?_⟩
  · obtain ⟨cs', h1, h2, _⟩ := hat j y hy
    obtain ⟨_, h3, h4⟩ := World.cells?_some h1
    refine ⟨cs', by rw [h3, he.size], h2, fun i u hu' => ?_⟩
    have hi : i < P.cellsOf E := by have := (List.getElem?_eq_some_iff.1 hu').1; omega
    have := h4 i hi
    rw [he.size, Go.Deep.add_add] at this
    rw [this, hu']
  · have := hw ((elems.length + rest.length) * P.bytesOf E) (by simp [DataW.weights, hu])
    have h2 : len * P.bytesOf E ≤ (elems.length + rest.length) * P.bytesOf E := Nat.mul_le_mul_right _ (by omega)
    rw [hyl]
    exact Nat.le_trans h2 this
  · intro y hy
    obtain ⟨j, hj, rfl⟩ := List.getElem_of_mem hy
    obtain ⟨_, _, _, h⟩ := hat j _ (List.getElem?_eq_getElem hj)
    exact h
structure OpensFields {α : Type} (P : Program) (K : World → α → List Value → Prop) (off : Nat) (sz : Nat) (fs : List Field) (good : α → Prop) : Prop where
  opn : ∀ {H : Type} {enc : TypeId × Value → H} {w : World} {base : Nat} {spare : Nat → Bool} {held : Bool} {fuel : Nat} {cs : List Value} {xs : List (DataW H × List MemPlace)},
    cs.length = off + sz → xs.length = fs.length → (∀ (i : Nat) (f : Field), fs[i]? = some f → DataW.trod enc P w base spare held fuel f.type ((cs.drop f.offset).take (P.cellsOf f.type)) = xs[i]?) →
    (∀ n ∈ DataW.weightsEach P (fs.map (·.type)) (xs.map (·.1)), n ≤ reachBytes) → ∃ y, K w y (cs.drop off) ∧ good y
theorem OpensFields.cons {α β : Type} {P : Program} {K : World → α → List Value → Prop} {K2 : World → β → List Value → Prop} {off sz sz2 : Nat} {f : Field} {fs : List Field} {good : α → Prop} {good2 : β → Prop}
    (h : Opens P K sz f.type good) (ho : f.offset = off) (h2 : OpensFields P K2 (off + sz) sz2 fs good2) : OpensFields P (Kpair K K2) off (sz + sz2) (f :: fs) (fun y => good y.1 ∧ good2 y.2) := by
  refine ⟨fun {H enc w base spare held fuel cs xs} hl hx hf hw => ?_⟩
  obtain ⟨x, r, rfl⟩ : ∃ x r, xs = x :: r := by cases xs with | nil => simp at hx | cons x r => exact ⟨x, r, rfl⟩
  have h0 := hf 0 f rfl
  rw [ho, h.size] at h0
  obtain ⟨y, h3, h4⟩ := h.opn h0 (fun n hn => hw n (by simp only [List.map_cons, DataW.weightsEach]; exact List.mem_append_left _ hn))
  obtain ⟨z, h5, h6⟩ := h2.opn (cs := cs) (xs := r) (by omega) (by simpa using hx) (fun i g hg => by simpa using hf (i + 1) g (by simpa using hg)) (fun n hn => hw n (by simp only [List.map_cons, DataW.weightsEach]; exact List.mem_append_right _ hn))
  refine ⟨(y, z), ⟨_, _, ?_, h3, h5⟩, h4, h6⟩
  rw [← List.drop_drop, List.take_append_drop]
theorem Opens.struct {α β : Type} {P : Program} {K : World → α → List Value → Prop} {sz : Nat} {T : TypeId} {fs : Array Field} {good : α → Prop} (h : OpensFields P K 0 sz fs.toList good) (hu : P.underlying T = some (.struct fs)) (hc : P.cellsOf T = sz) (f : β → α) (g : α → β) (hfg : ∀ a, f (g a) = a) :
    Opens P (fun w x cs => K w (f x) cs) sz T (fun x => good (f x)) := by
  refine ⟨hc, fun {H enc w base spare held fuel cs x} hx hw => ?_⟩
  obtain ⟨xs, n, rfl, rfl, hl, hlen, hf⟩ := DataW.trod_struct hu hx
  obtain ⟨y, h1, h2⟩ := h.opn (cs := cs) (xs := xs) (by omega) (by simpa using hlen) (fun i f hi => hf i f (by simpa using hi)) (fun n hn => hw n (by simp only [DataW.weights, hu]; exact hn))
  exact ⟨g y, by rw [hfg]; simpa using h1, by rw [hfg]; exact h2⟩
end Go.Proofs.YtcaigcmbgihhkaaGreatDoor
namespace Go.Proofs.YtcaigcmbgihhkaaGreatDoor
open Go.RowKit
theorem addr_block (b : Addr) (j : Nat) : (b.add j).block = b.block := by unfold Addr.add; split <;> rfl
theorem addr_add_lit (g o j : Nat) : (⟨g, o, none⟩ : Addr).add j = ⟨g, o + j, none⟩ := by unfold Addr.add; split <;> simp_all
theorem addr_field (ad : Addr) (m j : Nat) (hj : 0 < j) : ad.add (m + j) = ⟨(ad.add m).block, (ad.add m).off + j, none⟩ := by
  unfold Addr.add
  by_cases hm : m = 0
  · subst hm; simp; intro h; omega
  · rw [if_neg hm, if_neg (by omega)]; simp; omega
def SliceIn (n sz : Nat) (W : World) (v : Value) (len : Nat) (cs : List Value) : Prop :=
  cs.length = len * sz ∧ ∃ ao cap, v = .slice ao len cap ∧ len ≤ cap ∧ cap ≤ maxLen ∧ (ao = none → len = 0 ∧ cap = 0) ∧
    ∀ b, ao = some b → (0 < cs.length → b.block < n) ∧ ∀ j u, cs[j]? = some u → W.cell? (b.add j) = some u
theorem SliceIn.nil (n sz : Nat) (W : World) : SliceIn n sz W (.slice none 0 0) 0 [] := ⟨by simp, none, 0, rfl, Nat.le_refl _, Nat.zero_le _, fun _ => ⟨rfl, rfl⟩, fun b e => by cases e⟩
theorem SliceIn.later {n m sz len : Nat} {W W' : World} {v : Value} {cs : List Value} (h : SliceIn n sz W v len cs) (hn : n ≤ m) (hb : Below m W W') : SliceIn n sz W' v len cs := by
  obtain ⟨hl, ao, cap, rfl, h1, h2, h3, h4⟩ := h
  refine ⟨hl, ao, cap, rfl, h1, h2, h3, fun b e => ⟨(h4 b e).1, fun j u hu => ?_⟩⟩
  have hlt : 0 < cs.length := by
    have := (List.getElem?_eq_some_iff.1 hu).1
    omega
  exact (hb.cell (p := b.add j) (by rw [addr_block]; have := (h4 b e).1 hlt; omega)).trans ((h4 b e).2 j u hu)
theorem SliceIn.heap {n sz len : Nat} {W W' : World} {v : Value} {cs : List Value} (h : SliceIn n sz W v len cs) (he : W'.heap = W.heap) : SliceIn n sz W' v len cs := by
  obtain ⟨hl, ao, cap, rfl, h1, h2, h3, h4⟩ := h
  refine ⟨hl, ao, cap, rfl, h1, h2, h3, fun b e => ⟨(h4 b e).1, fun j u hu => ?_⟩⟩
  rw [show W'.cell? (b.add j) = W.cell? (b.add j) by simp only [World.cell?, he]]
  exact (h4 b e).2 j u hu
theorem SliceIn.at_ {n sz len : Nat} {W : World} {v : Value} {cs : List Value} (h : SliceIn n sz W v len cs) {b : Addr} {cap k j : Nat} {u : Value} (hv : v = .slice (some b) len cap) (hu : cs[k * sz + j]? = some u) :
    W.cell? (b.add (k * sz + j)) = some u := by
  obtain ⟨hl, ao, cap', rfl, h1, h2, h3, h4⟩ := h
  cases hv
  exact (h4 b rfl).2 _ u hu
theorem SliceIn.field {n sz len : Nat} {W : World} {v : Value} {cs : List Value} (h : SliceIn n sz W v len cs) {b : Addr} {cap k j : Nat} {u : Value} (hv : v = .slice (some b) len cap) (hu : cs[k * sz + j]? = some u) (hj : 0 < j) :
    W.cell? ⟨(b.add (k * sz)).block, (b.add (k * sz)).off + j, none⟩ = some u := by
  rw [← addr_field _ _ _ hj]
  exact h.at_ hv hu
theorem SliceIn.first {n sz len : Nat} {W : World} {v : Value} {cs : List Value} (h : SliceIn n sz W v len cs) {b : Addr} {cap k : Nat} {u : Value} (hv : v = .slice (some b) len cap) (hu : cs[k * sz]? = some u) :
    W.cell? (b.add (k * sz)) = some u := h.at_ (j := 0) hv hu
theorem SliceIn.form {n sz len : Nat} {W : World} {v : Value} {cs : List Value} (h : SliceIn n sz W v len cs) : ∃ ao cap, v = .slice ao len cap ∧ len ≤ cap ∧ cap ≤ maxLen ∧ (ao = none → len = 0 ∧ cap = 0) := by
  obtain ⟨hl, ao, cap, rfl, h1, h2, h3, h4⟩ := h
  exact ⟨ao, cap, rfl, h1, h2, h3⟩
theorem flatMap_len {α : Type} (f : α → List Value) (sz : Nat) (hf : ∀ x, (f x).length = sz) (xs : List α) : (xs.flatMap f).length = xs.length * sz := by
  induction xs with
  | nil => simp
  | cons x r ih => rw [List.flatMap_cons, List.length_append, ih, hf, List.length_cons]; rw [Nat.add_mul, Nat.one_mul, Nat.add_comm]
theorem flatMap_get {α : Type} (f : α → List Value) (sz : Nat) (hf : ∀ x, (f x).length = sz) : ∀ (xs : List α) (k j : Nat) (x : α), xs[k]? = some x → j < sz → (xs.flatMap f)[k * sz + j]? = (f x)[j]?
  | [], k, j, x, h, _ => by simp at h
  | y :: r, 0, j, x, h, hj => by
    simp at h
    subst h
    rw [List.flatMap_cons, Nat.zero_mul, Nat.zero_add, List.getElem?_append_left (by rw [hf]; exact hj)]
  | y :: r, k + 1, j, x, h, hj => by
    have ih := flatMap_get f sz hf r k j x (by simpa using h) hj
    rw [List.flatMap_cons, List.getElem?_append_right (by rw [hf, Nat.add_mul]; omega), hf, ← ih]
    congr 1
    rw [Nat.add_mul]
    omega
end Go.Proofs.YtcaigcmbgihhkaaGreatDoor
namespace Go.Proofs.YtcaigcmbgihhkaaGreatDoor
open Go.RowKit
set_option linter.unusedVariables false
set_option linter.unusedSimpArgs false
def BytesIn (n : Nat) (W : World) (v : Value) (xs : List UInt8) : Prop := SliceIn n 1 W v xs.length (bcells xs)
theorem run_string_of {n : Nat} {W : World} {v : Value} {bs : List UInt8} (h : BytesIn n W v bs) : (convert 68 9 v).run Tryz.prog W = .ok (.string ⟨bs.toArray⟩) W := by
  obtain ⟨hl, ao, cap, rfl, h1, h2, h3, h4⟩ := h
  cases ao with
  | none =>
    have : bs = [] := List.eq_nil_of_length_eq_zero (h3 rfl).1
    subst this
    exact run_convert_bytes_nil W 68 5 Tryz.underlying68 Tryz.underlying5 _ _ 9 Tryz.underlying9
  | some b =>
    exact run_convert_bytes_back W 68 9 5 b cap bs Tryz.underlying68 Tryz.underlying5 Tryz.underlying9 (fun j hj => (h4 b rfl).2 j _ (by simp [bcells, hj]))
theorem bytes_blk {W : World} {g o cap : Nat} {t : TypeId} {cs : Array Value} {bs : List UInt8} {rest : List Value} (hB : Blk W g t cs) (h : cs.toList.drop o = bcells bs ++ rest) (hc : bs.length ≤ cap) (hm : cap ≤ maxLen) : BytesIn W.heap.size W (.slice (some ⟨g, o, none⟩) bs.length cap) bs := by
  refine ⟨by rw [bcells_length, Nat.mul_one], some ⟨g, o, none⟩, cap, rfl, hc, hm, fun e => (by cases e), fun b e => ?_⟩
  cases e
  refine ⟨fun _ => hB.lt, fun j u hu => ?_⟩
  have hj := (List.getElem?_eq_some_iff.1 hu).1
  rw [addr_add_lit, hB.cell, ← Array.getElem?_toList, ← List.getElem?_drop, h, List.getElem?_append_left hj]
  exact hu
end Go.Proofs.YtcaigcmbgihhkaaGreatDoor
namespace Go.Proofs.YtcaigcmbgihhkaaGreatDoor
open Go.RowKit
theorem own_below {W W' : World} {base sz n : Nat} {e : TypeId} {v : Value} {cs : List Value} (h : W.ownsRow base e sz v n cs) (hb : Below W.heap.size W W') : W'.ownsRow base e sz v n cs :=
  h.kept (row := none) ⟨hb.os, hb.tape, hb.output, hb.size, fun k hk _ => hb.block k hk⟩ (by cases v.ownBlock <;> simp)
theorem own_set {W : World} {base sz n : Nat} {e : TypeId} {v : Value} {cs : List Value} (h : W.ownsRow base e sz v n cs) {B : Nat} (hB : some B ≠ v.ownBlock) (i : Nat) (u : Value) : (W.setCell ⟨B, i, none⟩ u).ownsRow base e sz v n cs :=
  h.kept (row := some B) ⟨rfl, rfl, rfl, by simp [World.setCell], fun k _ hk => Below.heap_setCell _ _ _ k (fun e => hk (by rw [e]))⟩ (.inr (fun e => hB e.symm))
theorem news_at (W : World) (t : TypeId) (cs : List Value) : ∀ j u, cs[j]? = some u → (W.alloc (.cells cs.toArray t)).cell? ((⟨W.heap.size, 0, none⟩ : Addr).add j) = some u := fun j u hu => by
  rw [addr_add_lit, Nat.zero_add, (Blk.new W t cs.toArray).cell]
  simpa using hu
theorem news_at' (W : World) (t : TypeId) (cs : List Value) (g : Nat) (hg : g = W.heap.size) : ∀ j u, cs[j]? = some u → (W.alloc (.cells cs.toArray t)).cell? ((⟨g, 0, none⟩ : Addr).add j) = some u := by
  subst hg
  exact news_at W t cs
theorem own_nil (W : World) (base sz : Nat) (e : TypeId) : W.ownsRow base e sz (.slice none 0 0) 0 [] := World.ownsRow_nil _ _ _ _
theorem own_form {W : World} {base sz n : Nat} {e : TypeId} {v : Value} {cs : List Value} (h : W.ownsRow base e sz v n cs) : ∃ ao cap, v = .slice ao n cap := by
  rcases h.2 with ⟨rfl, rfl⟩ | ⟨g, cap, _, rfl, _⟩
  · exact ⟨none, 0, rfl⟩
  · exact ⟨_, _, rfl⟩
theorem info_of {P : Program} {t : TypeId} {z : Value} {s b : Nat} (h : (P.info? t).map (fun i => (i.zero, i.size, i.bytes)) = some (some z, s, b)) : ∃ i, P.info? t = some i ∧ i.zero = some z ∧ i.size = s ∧ i.bytes = b := by
  obtain ⟨i, hi, he⟩ := Option.map_eq_some_iff.1 h
  simp only [Prod.mk.injEq] at he
  exact ⟨i, hi, he.1, he.2.1, he.2.2⟩
end Go.Proofs.YtcaigcmbgihhkaaGreatDoor
