/-
  Part of a proof: NdD.
-/
import Derived.Test.YtcaigcmbgihhkaaDoorZNdB
import Derived.Test.YtcaigcmbgihhkaaDoorZNdC
import Derived.Test.YtcaigcmbgihhkaaDoorZSmA
import Derived.ChangeArms
import Derived.WideShapes
namespace Go.Proofs.YtcaigcmbgihhkaaDoor
open Go Go.RowKit Go.Shelf
set_option linter.unusedVariables false
set_option linter.unusedSimpArgs false
attribute [local go_sem] Oper.semAt_some
set_option maxRecDepth 100000 in
theorem nd_c0 : Tryd.prog.cellsOf 24 = 6 := by kernel_rfl
set_option maxRecDepth 100000 in
theorem nd_c1 : Tryd.prog.cellsOf 3 = 1 := by kernel_rfl
set_option maxRecDepth 100000 in
theorem nd_c2 : Tryd.prog.cellsOf 9 = 1 := by kernel_rfl
set_option maxRecDepth 100000 in
theorem nd_c3 : Tryd.prog.cellsOf 2 = 1 := by kernel_rfl
set_option maxRecDepth 100000 in
theorem nd_c4 : Tryd.prog.cellsOf 22 = 1 := by kernel_rfl
section
variable {P : Program} {T : TypeId} {f0 f1 f2 f3 f4 f5 : Field} {H : Type} {enc : TypeId × Value → H} {w : World} {base : Nat} {spare : Nat → Bool} {held : Bool}
theorem tree_opens (hu : P.underlying T = some (.struct #[f0, f1, f2, f3, f4, f5])) (u0 : P.underlying f0.type = some (.int .i64)) (u1 : P.underlying f1.type = some .string) (u2 : P.underlying f2.type = some .string) (u3 : P.underlying f3.type = some (.int .i64)) (u4 : P.underlying f4.type = some (.slice T)) (u5 : P.underlying f5.type = some (.int .i64))
    (p0 : f0.offset = 0) (p1 : f1.offset = 1) (p2 : f2.offset = 2) (p3 : f3.offset = 3) (p4 : f4.offset = 4) (p5 : f5.offset = 5)
    (k0 : P.cellsOf f0.type = 1) (k1 : P.cellsOf f1.type = 1) (k2 : P.cellsOf f2.type = 1) (k3 : P.cellsOf f3.type = 1) (k4 : P.cellsOf f4.type = 1) (k5 : P.cellsOf f5.type = 1) (kT : P.cellsOf T = 6) :
    ∀ (fuel : Nat) (cs : List Value) (x : DataW H × List MemPlace), DataW.trod enc P w base spare held fuel T cs = some x → ∃ n kv, cs = ncells n kv ∧ KidsG w n.kids kv := by
  intro fuel
  induction fuel using Nat.strongRecOn with
  | _ fuel ih =>
  intro cs x h
  obtain ⟨xs, m, rfl, rfl, hl, hlen, hf⟩ := DataW.trod_struct hu h
  rw [kT] at hl
  obtain ⟨c0, c1, c2, c3, c4, c5, rfl⟩ : ∃ c0 c1 c2 c3 c4 c5, cs = [c0, c1, c2, c3, c4, c5] := by
    match cs, hl with
    | [c0, c1, c2, c3, c4, c5], _ => exact ⟨c0, c1, c2, c3, c4, c5, rfl⟩
  have hlen' : xs.length = 6 := hlen
  have h0 := hf 0 f0 rfl
  have h1 := hf 1 f1 rfl
  have h2 := hf 2 f2 rfl
  have h3 := hf 3 f3 rfl
  have h4 := hf 4 f4 rfl
  have h5 := hf 5 f5 rfl
  rw [List.getElem?_eq_getElem (by omega)] at h0 h1 h2 h3 h4 h5
  obtain ⟨n0, e0, -, -⟩ := DataW.trod_int u0 h0
  obtain ⟨s1, e1, -, -⟩ := DataW.trod_string u1 h1
  obtain ⟨s2, e2, -, -⟩ := DataW.trod_string u2 h2
  obtain ⟨n3, e3, -, -⟩ := DataW.trod_int u3 h3
  obtain ⟨n5, e5, -, -⟩ := DataW.trod_int u5 h5
  have h4' := DataW.trod_slice u4 h4
  rw [p0, k0] at e0
  rw [p1, k1] at e1
  rw [p2, k2] at e2
  rw [p3, k3] at e3
  rw [p4, k4] at h4'
  rw [p5, k5] at e5
  simp only [List.drop, List.take, List.cons.injEq, and_true] at e0 e1 e2 e3 e5 h4'
  subst e0 e1 e2 e3 e5
  rcases h4' with ⟨rfl, -⟩ | ⟨A, len, cap, elems, rest, q, rfl, rfl, -, -, g1, g2, g3, g4, -⟩
  · exact ⟨.mk n0 (bl s1) (bl s2) n3 [] n5, .slice none 0 0, by simp [ncells, NodeD.op, NodeD.text, NodeD.type, NodeD.n, NodeD.at_, mkB_bl], KidsG.nil _⟩
  · rw [kT] at g4
    have hey : ∀ i, i < len → ∃ (n : NodeD) (kv : Value), w.cells? base (A.add (i * 6)) 6 = some (ncells n kv) ∧ KidsG w n.kids kv := by
      intro i hi
      have hx := g4 i hi
      rw [List.getElem?_eq_getElem (by omega)] at hx
      obtain ⟨cs', h1, h2⟩ := Option.bind_eq_some_iff.1 hx
      obtain ⟨n, kv, rfl, hk⟩ := ih q (by omega) _ _ h2
      exact ⟨n, kv, h1, hk⟩
    classical
    have hys : ∀ m, m ≤ len → ∃ ys : List (NodeD × Value), ys.length = m ∧ ∀ (j : Nat) (y : NodeD × Value), ys[j]? = some y → w.cells? base (A.add (j * 6)) 6 = some (ncells y.1 y.2) ∧ KidsG w y.1.kids y.2 := by
      intro m
      induction m with
      | zero => exact fun _ => ⟨[], rfl, fun j y h => by simp at h⟩
      | succ m ihm =>
        intro hm'
        obtain ⟨ys, h1, h2⟩ := ihm (by omega)
        obtain ⟨n, kv, h3, h4⟩ := hey m (by omega)
        refine ⟨ys ++ [(n, kv)], by simp [h1], fun j z hz => ?_⟩
        rcases Nat.lt_or_ge j m with hj | hj
        · rw [List.getElem?_append_left (by omega)] at hz; exact h2 j z hz
        · rw [List.getElem?_append_right (by omega)] at hz
          have : j = m := by have := (List.getElem?_eq_some_iff.1 hz).1; simp at this; omega
          subst this
          rw [h1, Nat.sub_self] at hz
          simp at hz
          rw [← hz]; exact ⟨h3, h4⟩
    obtain ⟨ys, hyl, hyg⟩ := hys len (Nat.le_refl _)
    have hml : (ys.map Prod.fst).length = len := by simp [hyl]
    refine ⟨.mk n0 (bl s1) (bl s2) n3 (ys.map Prod.fst) n5, .slice (some A) len cap, by simp [ncells, NodeD.op, NodeD.text, NodeD.type, NodeD.n, NodeD.at_, mkB_bl], ?_⟩
    show KidsG w (ys.map Prod.fst) (.slice (some A) len cap)
    rw [← hml]
    have hat : ∀ (j : Nat) (k : NodeD), (ys.map Prod.fst)[j]? = some k → ∃ y, ys[j]? = some y ∧ y.1 = k := fun j k hj => by
      rw [List.getElem?_map, Option.map_eq_some_iff] at hj
      exact hj
    refine .mk _ _ cap (by rw [hml]; exact g1) g2 A (fun _ => rfl) (fun j => match ys[j]? with | some p => p.2 | none => .slice none 0 0) (fun j k hj => ?_) (fun j k i u hj hu => ?_)
    · obtain ⟨y, hy, rfl⟩ := hat j k hj
      rw [hy]
      exact (hyg j y hy).2
    · obtain ⟨y, hy, rfl⟩ := hat j k hj
      rw [hy] at hu
      obtain ⟨_, h4⟩ := World.cells?_some (hyg j y hy).1
      have hi : i < 6 := (List.getElem?_eq_some_iff.1 hu).1
      have := h4.2 i hi
      rw [Go.Deep.add_add] at this
      rw [this, hu]
theorem tree_arg {m : _} {b2 : Nat} {v : Value} {d : DataW H} {ps : List MemPlace} {fs : Array Field} (hu : P.underlying T = some (.struct fs)) (hT : ∀ (fuel : Nat) (cs : List Value) (x : DataW H × List MemPlace), DataW.trod enc P w base spare held fuel T cs = some x → ∃ n kv, cs = ncells n kv ∧ KidsG w n.kids kv)
    (hv : Value.okWide P w m b2 T v) (ht : DataW.Trod enc P w base spare held T v d ps) : ∃ n, NodeG w v n := by
  obtain ⟨cs, rfl, hsz⟩ := Go.WideShapes.okWide_struct hu hv
  obtain ⟨fuel, hf⟩ := ht
  obtain ⟨n, kv, e, hk⟩ := hT fuel _ _ hf
  refine ⟨n, kv, ?_, hk⟩
  have e' : cs.toList = ncells n kv := by simpa [Value.cells] using e
  have e2 : cs = (ncells n kv).toArray := by rw [← e']
  rw [e2]
  rfl
end
set_option maxRecDepth 100000 in
theorem node_opens {H : Type} {enc : TypeId × Value → H} {w : World} {base : Nat} {spare : Nat → Bool} {held : Bool} : ∀ (fuel : Nat) (cs : List Value) (x : DataW H × List MemPlace), DataW.trod enc Tryd.prog w base spare held fuel 24 cs = some x → ∃ n kv, cs = ncells n kv ∧ KidsG w n.kids kv :=
  tree_opens Tryd.underlying24 Tryd.underlying3 Tryd.underlying9 Tryd.underlying9 Tryd.underlying2 Tryd.underlying22 Tryd.underlying3 rfl rfl rfl rfl rfl rfl nd_c1 nd_c2 nd_c2 nd_c3 nd_c4 nd_c1 nd_c0
set_option maxRecDepth 100000 in
theorem open_node {H : Type} {enc : TypeId × Value → H} {w : World} {m : _} {base b2 : Nat} {spare : Nat → Bool} {held : Bool} {v : Value} {d : DataW H} {ps : List MemPlace}
    (hv : Value.okWide Tryd.prog w m b2 24 v) (ht : DataW.Trod enc Tryd.prog w base spare held 24 v d ps) (hw : ∀ n ∈ d.weights Tryd.prog 24, n ≤ reachBytes) : ∃ n, NodeG w v n :=
  tree_arg Tryd.underlying24 node_opens hv ht
theorem sized_at {H : Type} {P : Program} {ts : List TypeId} {ds : List (DataW H)} (hsz : (DataW.weightsEach P ts ds).all (· ≤ reachBytes) = true) {j : Nat} {t : TypeId} {d : DataW H} (ht : ts[j]? = some t) (hd : ds[j]? = some d) : ∀ n ∈ d.weights P t, n ≤ reachBytes := fun n hn => by
  have := List.all_eq_true.1 hsz n (DataW.weights_mem_each ht hd n hn)
  simpa using this
end Go.Proofs.YtcaigcmbgihhkaaDoor
