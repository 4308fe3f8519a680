/-
  Part of a proof: NumText, LexW, LexX, NumRead, LexY, LexZ.
-/
import Derived.Test.YtcaigcmbgihhkaaGreatDoorZRef
import Derived.Test.YtcaigcmbgihhkaaGreatDoorZMem
import Derived.Outline
import Derived.Test.YtcaigcmbgihhkaaGreatDoorZPc
import Derived.Test.YtcaigcmbgihhkaaGreatDoorZShelf
import Derived.Shelf.Strings.SlTrimAscii
import Derived.WalkLawsBesides
import Derived.WalkSpells
import Derived.Maps.OwnOps
import Derived.Maps.Views
namespace Go.Proofs.YtcaigcmbgihhkaaGreatDoor
open Go Go.RowKit
set_option linter.unusedVariables false
set_option linter.unusedSimpArgs false
attribute [local go_sem] Oper.semAt_some
structure NumAt (u0 u a : Nat) (post : Bs) (more : Bool) (cs : Array Value) : Prop where
  room : a + post.length = 20
  cells : cs.toList = List.replicate a (.int .u8 0) ++ bcells post
  first : post = [] → u = u0 ∧ more = true
  later : post ≠ [] → textN u0 = (if u = 0 then [] else textN u) ++ post ∧ more = decide (0 < u)
  small : u ≤ u0
theorem NumAt.start (u0 : Nat) : NumAt u0 u0 20 [] true #[.int .u8 0, .int .u8 0, .int .u8 0, .int .u8 0, .int .u8 0, .int .u8 0, .int .u8 0, .int .u8 0, .int .u8 0, .int .u8 0, .int .u8 0, .int .u8 0, .int .u8 0, .int .u8 0, .int .u8 0, .int .u8 0, .int .u8 0, .int .u8 0, .int .u8 0, .int .u8 0] :=
  ⟨rfl, rfl, fun _ => ⟨rfl, rfl⟩, fun h => absurd rfl h, Nat.le_refl _⟩
theorem NumAt.pos {u0 u a : Nat} {post : Bs} {cs : Array Value} (h : NumAt u0 u a post true cs) (h0 : u0 < 18446744073709551616) : 1 ≤ a := by
  by_cases hp : post = []
  · have := h.room; rw [hp] at this; simp at this; omega
  · obtain ⟨h1, h2⟩ := h.later hp
    have hu : 0 < u := by simpa using h2.symm
    rw [if_neg (by omega)] at h1
    have hl := textN_len 19 u0 (by omega)
    have hlu := textN_pos u
    rw [h1, List.length_append] at hl
    have := h.room
    omega
theorem NumAt.step {u0 u a : Nat} {post : Bs} {cs : Array Value} (h : NumAt u0 u a post true cs) (ha : 1 ≤ a) :
    NumAt u0 (u / 10) (a - 1) (UInt8.ofNat (48 + u % 10) :: post) (decide (0 < u / 10)) (cs.setIfInBounds (a - 1) (.int .u8 ((48 + u % 10 : Nat) : Int))) := by
  refine ⟨by have := h.room; simp; omega, ?_, fun h => (by cases h), fun _ => ⟨?_, rfl⟩, by have := h.small; omega⟩
  · obtain ⟨b, rfl⟩ : ∃ b, a = b + 1 := ⟨a - 1, by omega⟩
    rw [Array.toList_setIfInBounds, h.cells, Nat.add_sub_cancel, List.set_append_left _ _ (by simp), List.replicate_succ', List.set_append_right _ _ (by simp)]
    simp only [List.length_replicate, Nat.sub_self, List.set_cons_zero, List.append_assoc, List.singleton_append]
    congr 2
    simp only [bcells, List.map_cons]
    congr 2
    rw [dig_ofNat (by omega)]
  · by_cases hp : post = []
    · rw [(h.first hp).1, hp]
      by_cases h10 : u0 < 10
      · rw [textN_lt h10, if_pos (by omega), Nat.mod_eq_of_lt h10]; rfl
      · rw [textN_ge h10, if_neg (by omega)]
    · obtain ⟨h1, h2⟩ := h.later hp
      have hu : 0 < u := by simpa using h2.symm
      rw [h1, if_neg (by omega)]
      by_cases h10 : u < 10
      · rw [textN_lt h10, if_pos (by omega), Nat.mod_eq_of_lt h10]; rfl
      · rw [textN_ge h10, if_neg (by omega)]; simp
theorem NumAt.done {u0 u a : Nat} {post : Bs} {cs : Array Value} (h : NumAt u0 u a post false cs) : post = textN u0 := by
  by_cases hp : post = []
  · have := (h.first hp).2; cases this
  · obtain ⟨h1, h2⟩ := h.later hp
    have hu : u = 0 := by
      have := of_decide_eq_false h2.symm
      omega
    rw [h1, if_pos hu]; rfl
theorem textN_short19 (u : Nat) (h : u ≤ 9223372036854775808) : (textN u).length ≤ 19 := textN_len 18 u (by omega)
set_option maxRecDepth 100000 in
set_option maxHeartbeats 2000000 in
theorem numtext_any (W : World) (n : Int) (h0 : -9223372036854775808 ≤ n) (h1 : n ≤ 9223372036854775807) :
    Calls Tryz.prog 163 #[.int .i64 n] W fun e W' => e = .returned (.string ⟨(textZ n).toArray⟩) ∧ Below W.heap.size W W' := by
  by_cases hn : n < 0
  · have hb : decide (n < 0) = true := decide_eq_true hn
    obtain ⟨u0, hu0e⟩ : ∃ u0, u0 = (-n).toNat := ⟨_, rfl⟩
    have hu0 : u0 < 18446744073709551616 := by omega
    have hul := textN_short19 u0 (by omega)
    go_enter Tryz.func163, Tryz.ntmps163
    go_wp2
    have hB := Blk.new W 255 #[.int .u8 0, .int .u8 0, .int .u8 0, .int .u8 0, .int .u8 0, .int .u8 0, .int .u8 0, .int .u8 0, .int .u8 0, .int .u8 0, .int .u8 0, .int .u8 0, .int .u8 0, .int .u8 0, .int .u8 0, .int .u8 0, .int .u8 0, .int .u8 0, .int .u8 0, .int .u8 0]
    have hb1 := (Below.refl W.heap.size W).alloc (Nat.le_refl _) (.cells #[.int .u8 0, .int .u8 0, .int .u8 0, .int .u8 0, .int .u8 0, .int .u8 0, .int .u8 0, .int .u8 0, .int .u8 0, .int .u8 0, .int .u8 0, .int .u8 0, .int .u8 0, .int .u8 0, .int .u8 0, .int .u8 0, .int .u8 0, .int .u8 0, .int .u8 0, .int .u8 0] 255)
    have HB := Lib.hid hB
    have HB1 := Lib.hid hb1
    clear hB hb1
    go_loopw [3, 5, 6] (fun s3 s5 s6 wr => ∃ (u a : Nat) (post : Bs) (more : Bool) (cs : Array Value), s3 = .int .u64 (u : Int) ∧ s5 = .int .i64 (a : Int) ∧ s6 = .bool more ∧ a ≤ 20 ∧ u ≤ u0 ∧ Hid (NumAt u0 u a post more cs) ∧ Hid (Blk wr W.heap.size 255 cs) ∧ Hid (Below W.heap.size W wr)) (fun _ s5 s6 _ => (intOf s5).toNat)
    case atStart => exact ⟨u0, 20, [], true, _, (by congr 1; simp only [IntKind.wrap, IntKind.bits, IntKind.signed]; simp; omega), rfl, rfl, by omega, by omega, Lib.hid (NumAt.start u0), HB, HB1⟩
    case round =>
      obtain ⟨u, a, post, more, cs, rfl, rfl, rfl, ha, hu, hN, hK, hb'⟩ := hrel
      cases more
      · have hd := hN.out.done
        have hroom := hN.out.room
        have hcells := hN.out.cells
        have hal : 1 ≤ a := by rw [hd] at hroom; omega
        have hsz : cs.size = 20 := by rw [← Array.length_toList, hcells, List.length_append, List.length_replicate, bcells_length]; omega
        have hcell : wr.cell? ⟨W.heap.size, a - 1, none⟩ = some (.int .u8 0) := by
          rw [hK.out.cell, ← Array.getElem?_toList, hcells, List.getElem?_append_left (by rw [List.length_replicate]; omega), List.getElem?_replicate, if_pos (by omega)]
        have hfr := hK.out.frozen (a - 1)
        have hb2 := Lib.hid (hb'.out.setCell (p := ⟨W.heap.size, a - 1, none⟩) (Nat.le_refl _) (.int .u8 45))
        have hset : (cs.setIfInBounds (a - 1) (.int .u8 45)).toList.drop (a - 1) = bcells (45 :: post) ++ [] := by
          rw [Array.toList_setIfInBounds, hcells, List.append_nil]
          obtain ⟨b, rfl⟩ : ∃ b, a = b + 1 := ⟨a - 1, by omega⟩
          rw [Nat.add_sub_cancel, List.set_append_left _ _ (by simp), List.replicate_succ', List.set_append_right _ _ (by simp)]
          simp only [List.length_replicate, Nat.sub_self, List.set_cons_zero, List.append_assoc, List.singleton_append]
          rw [List.drop_left' (by simp)]
          rfl
        have hbi := bytes_blk (cap := 20 - (a - 1)) (hK.out.set (a - 1) (.int .u8 45)) hset (by simp; omega) (by unfold maxLen; omega)
        have hrun := run_string_of hbi
        rw [show (45 :: post).length = 20 - (a - 1) by simp; omega] at hrun
        have hres : textZ n = 45 :: post := by rw [textZ, if_pos hn, hd]; congr 2; omega
        have HRES := Lib.hid hres
        have a1 : (1 : Int) ≤ (a : Int) := by omega
        have a20 : (a : Int) - 1 ≤ 20 := by omega
        have a21 : (a : Int) ≤ 20 := by omega
        have an20 : ¬ 20 = a - 1 := by omega
        have a0 : (0 : Int) ≤ (a : Int) - 1 := by omega
        have HHN := Lib.hid hn
        clear hd hroom hcells hsz hset hbi hres hn
        go_wp2
        go_ret
        exact ⟨by rw [HRES.out]; rfl, hb2.out⟩
      · have h1 := hN.out.pos hu0
        have hst := Lib.hid (hN.out.step h1)
        have hcell : wr.cell? ⟨W.heap.size, a - 1, none⟩ = some (.int .u8 0) := by
          rw [hK.out.cell, ← Array.getElem?_toList, hN.out.cells, List.getElem?_append_left (by rw [List.length_replicate]; omega), List.getElem?_replicate, if_pos (by omega)]
        have hfr := hK.out.frozen (a - 1)
        have hK2 := Lib.hid (fun v => hK.out.set (a - 1) v)
        have hb2 := Lib.hid (fun v => hb'.out.setCell (p := ⟨W.heap.size, a - 1, none⟩) (Nat.le_refl _) v)
        go_wp2
        go_roundw
        case rel =>
          refine ⟨u / 10, a - 1, UInt8.ofNat (48 + u % 10) :: post, decide (0 < u / 10), _, by simp, ?_, ?_, by omega, by omega, hst, ?_, Lib.hid (hb2.out _)⟩
          · congr 1; omega
          · congr 1; rw [Bool.eq_iff_iff, decide_eq_true_eq, decide_eq_true_eq]; omega
          · have e := hK2.out (.int .u8 ((48 + u % 10 : Nat) : Int))
            exact Lib.hid e
        case measure => simp [intOf]; omega
  · have hb : decide (n < 0) = false := decide_eq_false hn
    obtain ⟨u0, rfl⟩ : ∃ u0 : Nat, n = u0 := ⟨n.toNat, by omega⟩
    have hu0 : u0 < 18446744073709551616 := by omega
    go_enter Tryz.func163, Tryz.ntmps163
    go_wp2
    have hB := Blk.new W 255 #[.int .u8 0, .int .u8 0, .int .u8 0, .int .u8 0, .int .u8 0, .int .u8 0, .int .u8 0, .int .u8 0, .int .u8 0, .int .u8 0, .int .u8 0, .int .u8 0, .int .u8 0, .int .u8 0, .int .u8 0, .int .u8 0, .int .u8 0, .int .u8 0, .int .u8 0, .int .u8 0]
    have hb1 := (Below.refl W.heap.size W).alloc (Nat.le_refl _) (.cells #[.int .u8 0, .int .u8 0, .int .u8 0, .int .u8 0, .int .u8 0, .int .u8 0, .int .u8 0, .int .u8 0, .int .u8 0, .int .u8 0, .int .u8 0, .int .u8 0, .int .u8 0, .int .u8 0, .int .u8 0, .int .u8 0, .int .u8 0, .int .u8 0, .int .u8 0, .int .u8 0] 255)
    have HB := Lib.hid hB
    have HB1 := Lib.hid hb1
    clear hB hb1
    go_loopw [3, 5, 6] (fun s3 s5 s6 wr => ∃ (u a : Nat) (post : Bs) (more : Bool) (cs : Array Value), s3 = .int .u64 (u : Int) ∧ s5 = .int .i64 (a : Int) ∧ s6 = .bool more ∧ a ≤ 20 ∧ u ≤ u0 ∧ Hid (NumAt u0 u a post more cs) ∧ Hid (Blk wr W.heap.size 255 cs) ∧ Hid (Below W.heap.size W wr)) (fun _ s5 s6 _ => (intOf s5).toNat)
    case atStart => exact ⟨u0, 20, [], true, _, rfl, rfl, rfl, by omega, by omega, Lib.hid (NumAt.start u0), HB, HB1⟩
    case round =>
      obtain ⟨u, a, post, more, cs, rfl, rfl, rfl, ha, hu, hN, hK, hb'⟩ := hrel
      cases more
      · have hd := hN.out.done
        have hroom := hN.out.room
        have hcells := hN.out.cells
        have hsz : cs.size = 20 := by rw [← Array.length_toList, hcells, List.length_append, List.length_replicate, bcells_length]; omega
        have hdr : cs.toList.drop a = bcells post ++ [] := by rw [hcells, List.drop_left' (by simp), List.append_nil]
        have hbi := bytes_blk (cap := 20 - a) hK.out hdr (by omega) (by unfold maxLen; omega)
        have hrun := run_string_of hbi
        rw [show post.length = 20 - a by omega] at hrun
        have hres : textZ (u0 : Int) = post := by rw [textZ, if_neg (by omega), Int.toNat_natCast, hd]
        have HRES := Lib.hid hres
        have hpp : 1 ≤ post.length := by rw [hd]; exact textN_pos u0
        have a20 : (a : Int) ≤ 20 := by omega
        have an20 : ¬ 20 = a := by omega
        have a0 : (0 : Int) ≤ (a : Int) := by omega
        clear hd hroom hcells hsz hdr hbi hres
        go_wp2
        go_ret
        exact ⟨by rw [HRES.out]; rfl, hb'.out⟩
      · have h1 := hN.out.pos hu0
        have hst := Lib.hid (hN.out.step h1)
        have hcell : wr.cell? ⟨W.heap.size, a - 1, none⟩ = some (.int .u8 0) := by
          rw [hK.out.cell, ← Array.getElem?_toList, hN.out.cells, List.getElem?_append_left (by rw [List.length_replicate]; omega), List.getElem?_replicate, if_pos (by omega)]
        have hfr := hK.out.frozen (a - 1)
        have hK2 := Lib.hid (fun v => hK.out.set (a - 1) v)
        have hb2 := Lib.hid (fun v => hb'.out.setCell (p := ⟨W.heap.size, a - 1, none⟩) (Nat.le_refl _) v)
        go_wp2
        go_roundw
        case rel =>
          refine ⟨u / 10, a - 1, UInt8.ofNat (48 + u % 10) :: post, decide (0 < u / 10), _, by simp, ?_, ?_, by omega, by omega, hst, ?_, Lib.hid (hb2.out _)⟩
          · congr 1; omega
          · congr 1; rw [Bool.eq_iff_iff, decide_eq_true_eq, decide_eq_true_eq]; omega
          · have e := hK2.out (.int .u8 ((48 + u % 10 : Nat) : Int))
            exact Lib.hid e
        case measure => simp [intOf]; omega
end Go.Proofs.YtcaigcmbgihhkaaGreatDoor
namespace Go.Proofs.YtcaigcmbgihhkaaGreatDoor
open Go Go.RowKit Go.Proofs.YtcaigcmbgihhkaaGreatDoorW.PrintWords
set_option linter.unusedVariables false
set_option linter.unusedSimpArgs false
theorem part_tells (c : UInt8) : Ppart.lex_part.f (c.toNat : Int) = some (partB c) := by
  have e95 := u8_eq c 95 (by omega)
  have h95 : (c == 95) = decide ((c.toNat : Int) = 95) := by rw [Bool.eq_iff_iff, beq_iff_eq, decide_eq_true_eq]; exact e95
  have hL : ((c.toNat : Int) == 95) = decide ((c.toNat : Int) = 95) := by rw [Bool.eq_iff_iff, beq_iff_eq, decide_eq_true_eq]
  unfold Ppart.lex_part.f partB letB digB
  rw [h95, hL]
  clear e95 h95 hL
  generalize c.toNat = n
  have hcl : (97 ≤ n ∧ n ≤ 122) ∨ (65 ≤ n ∧ n ≤ 90) ∨ n = 95 ∨ (48 ≤ n ∧ n ≤ 57) ∨ n < 48 ∨ (58 ≤ n ∧ n ≤ 64) ∨ (91 ≤ n ∧ n ≤ 94) ∨ n = 96 ∨ 122 < n := by omega
  rcases hcl with h | h | h | h | h | h | h | h | h
  all_goals
    repeat (first | rw [if_pos (by omega)] | rw [if_neg (by omega)])
    congr 1
    symm
    first
      | (rw [Bool.eq_iff_iff]; simp only [Bool.or_eq_true, Bool.and_eq_true, decide_eq_true_eq]; omega)
      | (simp only [Bool.or_eq_true, Bool.and_eq_true, decide_eq_true_eq]; omega)
theorem bletter_tells (c : UInt8) : PName.bin_letter.f (c.toNat : Int) = some (letB c) := letter_tells c
theorem bdigit_tells (c : UInt8) : PName.bin_digit.f (c.toNat : Int) = some (digB c) := digit_tells c
theorem bname_from (s : ByteArray) (hs : s.size ≤ 140737488351232) : ∀ (l : Bs) (p : Nat), (bl s).drop p = l → p ≤ s.size → Ev (fun k => PName.bin_Name.l0 k s (s.size : Int) (p : Int)) (l.all partB) := by
  intro l
  induction l with
  | nil =>
    intro p hl hp
    have hsz := drop_nil hl
    exact Ev.step (f := fun _ => some _) (fun k => by rw [PName.bin_Name.l0, if_neg (by omega)]; rfl) (Ev.now _)
  | cons c r ih =>
    intro p hl hp
    obtain ⟨hbt, hlt⟩ := bt_drop hl
    have hnx := drop_step hl
    have hw := Lib.hid (wrap_succ (n := p) (by omega))
    have h1 := bletter_tells c
    have h2 := bdigit_tells c
    rw [List.all_cons]
    by_cases hp : partB c = true
    · rw [hp, Bool.true_and]
      refine Ev.step (f := fun k => PName.bin_Name.l0 k s (s.size : Int) ((p + 1 : Nat) : Int)) (fun k => ?_) (ih (p + 1) hnx (by omega))
      rw [PName.bin_Name.l0, if_pos (by omega), if_pos (by omega), if_pos (by omega), hbt, h1, Option.bind_some, h2, Option.bind_some, hw.out]
      by_cases hb : letB c = true
      · rw [if_pos hb]
      · rw [if_neg hb, if_pos (by simpa [partB, hb] using hp)]
    · have hpf : partB c = false := by simpa using hp
      rw [hpf, Bool.false_and]
      simp only [partB, Bool.or_eq_false_iff] at hpf
      exact Ev.step (f := fun _ => some _) (fun k => by rw [PName.bin_Name.l0, if_pos (by omega), if_pos (by omega), if_pos (by omega), hbt, h1, Option.bind_some, h2, Option.bind_some, hpf.1, hpf.2, if_neg (by simp), if_neg (by simp)]) (Ev.now _)
theorem bname_tells (s : ByteArray) (hs : s.size ≤ 140737488351232) : Ev (fun k => PName.bin_Name.f k s) (nameL (bl s)) := by
  have hno : nameL (bl s) = false → Ev (fun k => PName.bin_Name.j0 k s true) (nameL (bl s)) := fun h => by
    rw [h]; exact Ev.step (f := fun _ => some false) (fun k => by rw [PName.bin_Name.j0, if_pos rfl]) (Ev.now _)
  cases hbl : bl s with
  | nil =>
    rw [← hbl]
    refine Ev.congr (f := fun k => PName.bin_Name.j0 k s true) (fun k => ?_) (hno (by rw [hbl]; rfl))
    rw [PName.bin_Name.f, if_pos (by rw [toList_bl, hbl])]
  | cons c r =>
    have hne : ¬ s.toList = ([] : List UInt8) := by rw [toList_bl, hbl]; simp
    have hlen : (c :: r).length = s.size := by rw [← hbl, bl_len]
    by_cases h24 : 24 < s.size
    · rw [← hbl]
      refine Ev.congr (f := fun k => PName.bin_Name.j0 k s true) (fun k => ?_) (hno ?_)
      · rw [PName.bin_Name.f, if_neg hne, if_pos (by omega)]
      · simp only [nameL]; rw [bl_len, show decide (s.size ≤ 24) = false by simp; omega]; simp
    · have hb := (bt_drop (s := s) (p := 0) (by rw [List.drop_zero]; exact hbl)).1
      have h2 := bdigit_tells c
      have hpos : 0 < s.size := by rw [← hlen]; simp
      have hf : ∀ k, PName.bin_Name.f k s = PName.bin_Name.j0 k s (digB c) := fun k => by
        rw [PName.bin_Name.f, if_neg hne, if_neg (by omega), if_pos (by omega), show (0 : Int) = ((0 : Nat) : Int) from rfl, hb, h2, Option.bind_some]
      refine Ev.congr hf ?_
      rw [← hbl]
      cases hd : digB c
      · refine Ev.step (f := fun k => PName.bin_Name.l0 k s (s.size : Int) 0) (fun k => by rw [PName.bin_Name.j0, if_neg (by simp)]) ?_
        have e : nameL (bl s) = (bl s).all partB := by
          simp only [nameL]
          rw [bl_len, decide_eq_true (by omega), decide_eq_true (by omega), hbl, List.head?_cons, Option.any_some, hd]
          simp
        rw [e]
        exact bname_from s hs (bl s) 0 (by simp) (by omega)
      · refine hno ?_
        simp only [nameL]
        rw [hbl, List.head?_cons, Option.any_some, hd]
        simp
def tres0 : Option (Bs × Nat) → Int × ByteArray × Int × Int × Int
  | none => (0, ⟨#[]⟩, 0, 0, 0)
  | some (t, n) => (3, ⟨t.toArray⟩, 0, 0, (n : Int))
theorem esc_tells (c : UInt8) : Ptext.lex_escaped.f (c.toNat : Int) = some (match escL c with | some e => ((e.toNat : Int), true) | none => (0, false)) := by
  have e1 : c = 110 ↔ (c.toNat : Int) = 110 := u8_eq c 110 (by omega)
  have e2 : c = 116 ↔ (c.toNat : Int) = 116 := u8_eq c 116 (by omega)
  have e3 : c = 34 ↔ (c.toNat : Int) = 34 := u8_eq c 34 (by omega)
  have e4 : c = 92 ↔ (c.toNat : Int) = 92 := u8_eq c 92 (by omega)
  unfold Ptext.lex_escaped.f escL
  by_cases h1 : c = 110
  · rw [if_pos (e1.1 h1), if_pos h1]; rfl
  · rw [if_neg (fun h => h1 (e1.2 h)), if_neg h1]
    by_cases h2 : c = 116
    · rw [if_pos (e2.1 h2), if_pos h2]; rfl
    · rw [if_neg (fun h => h2 (e2.2 h)), if_neg h2]
      by_cases h3 : c = 34
      · rw [if_pos (e3.1 h3), if_pos (.inl h3)]
      · rw [if_neg (fun h => h3 (e3.2 h))]
        by_cases h4 : c = 92
        · rw [if_pos (e4.1 h4), if_pos (.inr h4)]
        · rw [if_neg (fun h => h4 (e4.2 h)), if_neg (by rintro (h | h); exact h3 h; exact h4 h)]
theorem ltext_loop (s : ByteArray) (hs : s.size ≤ 140737488351232) : ∀ (m : Nat) (l acc : Bs) (p : Nat), l.length = m → (bl s).drop p = l → p ≤ s.size → acc.length ≤ p →
    Ev (fun k => Ptext.lex_text.l0 k s (nums acc) (p : Int)) (tres0 (textL l acc p)) := by
  intro m
  induction m using Nat.strongRecOn with
  | _ m ih =>
  intro l acc p hm hl hp hacc
  cases l with
  | nil =>
    have hsz := drop_nil hl
    exact Ev.step (f := fun _ => some _) (fun k => by rw [Ptext.lex_text.l0, if_neg (by omega)]; rfl) (Ev.now _)
  | cons c r =>
    obtain ⟨hbt, hlt⟩ := bt_drop hl
    have hnx := drop_step hl
    have hw := Lib.hid (wrap_succ (n := p) (by omega))
    have e34 := u8_eq c 34 (by omega)
    have e92 := u8_eq c 92 (by omega)
    have hln : (nums acc).length < 140737488355328 := by rw [nums_len]; omega
    have j2t : Ev (fun k => Ptext.lex_text.j2 k s (nums acc) (p : Int) (c.toNat : Int) true) (tres0 none) := Ev.step (f := fun _ => some _) (fun k => by rw [Ptext.lex_text.j2, if_pos rfl]; rfl) (Ev.now _)
    rw [textL.eq_def]
    simp only
    by_cases h34 : c = 34
    · have g34 : (c.toNat : Int) = 34 := e34.1 h34
      rw [if_pos h34]
      by_cases h64 : acc.length ≤ 64
      · rw [if_pos h64]
        refine Ev.step (f := fun k => Ptext.lex_text.j1 k s (nums acc) (p : Int) (c.toNat : Int) true) (fun k => ?_) ?_
        · rw [Ptext.lex_text.l0, if_pos (by omega), if_pos (by omega), hbt, if_pos g34, nums_len, decide_eq_true (by omega)]
        · exact Ev.step (f := fun _ => some _) (fun k => by rw [Ptext.lex_text.j1, if_pos rfl, str_nums, hw.out]; rfl) (Ev.now _)
      · rw [if_neg h64]
        refine Ev.step (f := fun k => Ptext.lex_text.j1 k s (nums acc) (p : Int) (c.toNat : Int) false) (fun k => ?_) ?_
        · rw [Ptext.lex_text.l0, if_pos (by omega), if_pos (by omega), hbt, if_pos g34, nums_len, decide_eq_false (by omega)]
        · exact Ev.step (fun k => by rw [Ptext.lex_text.j1, if_neg (by simp), if_pos g34]) j2t
    · rw [if_neg h34]
      have g34 : ¬ (c.toNat : Int) = 34 := fun h => h34 (e34.2 h)
      refine Ev.step (f := fun k => Ptext.lex_text.j1 k s (nums acc) (p : Int) (c.toNat : Int) false) (fun k => ?_) ?_
      · rw [Ptext.lex_text.l0, if_pos (by omega), if_pos (by omega), hbt, if_neg g34]
      · by_cases hr : c.toNat < 32 ∨ 126 < c.toNat
        · rw [if_pos hr]
          refine Ev.step (f := fun k => Ptext.lex_text.j2 k s (nums acc) (p : Int) (c.toNat : Int) true) (fun k => ?_) j2t
          rw [Ptext.lex_text.j1, if_neg (by simp), if_neg g34]
          by_cases h32 : (c.toNat : Int) < 32
          · rw [if_pos h32]
          · rw [if_neg h32, decide_eq_true (by omega)]
        · rw [if_neg hr]
          refine Ev.step (f := fun k => Ptext.lex_text.j2 k s (nums acc) (p : Int) (c.toNat : Int) false) (fun k => ?_) ?_
          · rw [Ptext.lex_text.j1, if_neg (by simp), if_neg g34, if_neg (by omega), decide_eq_false (by omega)]
          · by_cases h92 : c = 92
            · rw [if_pos h92]
              have g92 : (c.toNat : Int) = 92 := e92.1 h92
              cases r with
              | nil =>
                have hsz := drop_nil hnx
                exact Ev.step (f := fun _ => some _) (fun k => by rw [Ptext.lex_text.j2, if_neg (by simp), if_pos g92, hw.out, if_pos (by omega)]; rfl) (Ev.now _)
              | cons d r2 =>
                obtain ⟨hbd, hltd⟩ := bt_drop hnx
                have hnd : (bl s).drop (p + 2) = r2 := by have := drop_step hnx; rwa [Nat.add_assoc] at this
                have hw2 : Hid (wrap64 (((p + 1 : Nat) : Int) + 1) = ((p + 2 : Nat) : Int)) := Lib.hid (by unfold wrap64; omega)
                have a0 : ¬ ((p + 1 : Nat) : Int) = (s.size : Int) := by omega
                have a1 : ((p + 1 : Nat) : Int) < (s.size : Int) := by omega
                have a2 : (0 : Int) ≤ ((p + 1 : Nat) : Int) := by omega
                have hes := esc_tells d
                simp only
                cases he : escL d with
                | none =>
                  rw [he] at hes
                  exact Ev.step (f := fun _ => some _) (fun k => by rw [Ptext.lex_text.j2, if_neg (by simp), if_pos g92, hw.out, if_neg a0, if_pos a2, if_pos a1, hbd, hes]; rfl) (Ev.now _)
                | some e =>
                  rw [he] at hes
                  refine Ev.step (f := fun k => Ptext.lex_text.l0 k s (nums (acc ++ [e])) ((p + 2 : Nat) : Int)) (fun k => ?_) (ih r2.length (by simp at hm; omega) r2 (acc ++ [e]) (p + 2) rfl hnd (by omega) (by simp; omega))
                  rw [Ptext.lex_text.j2, if_neg (by simp), if_pos g92, hw.out, if_neg a0, if_pos a2, if_pos a1, hbd, hes, Option.bind_some, if_pos rfl, if_pos hln, hw2.out, nums_snoc]
            · rw [if_neg h92]
              have g92 : ¬ (c.toNat : Int) = 92 := fun h => h92 (e92.2 h)
              refine Ev.step (f := fun k => Ptext.lex_text.l0 k s (nums (acc ++ [c])) ((p + 1 : Nat) : Int)) (fun k => ?_) (ih r.length (by simp at hm; omega) r (acc ++ [c]) (p + 1) rfl hnx (by omega) (by simp; omega))
              rw [Ptext.lex_text.j2, if_neg (by simp), if_neg g92, if_pos hln, nums_snoc, hw.out]
theorem ltext_tells (s : ByteArray) (hs : s.size ≤ 140737488351232) (c : UInt8) (r : Bs) (h : bl s = c :: r) : Ev (fun k => Ptext.lex_text.f k s) (tres0 (textL r [] 1)) := by
  have hlen : (c :: r).length = s.size := by rw [← h, bl_len]
  exact ltext_loop s hs r.length r [] 1 rfl (by rw [h]; rfl) (by simp at hlen; omega) (by simp)
end Go.Proofs.YtcaigcmbgihhkaaGreatDoor
namespace Go.Proofs.YtcaigcmbgihhkaaGreatDoor
open Go Go.RowKit
set_option linter.unusedVariables false
set_option linter.unusedSimpArgs false
attribute [local go_sem] Oper.semAt_some
theorem blk_list (c : UInt8) : ([32, 9, 10, 13] : Bs).contains c = blkB c := by
  simp only [List.contains_cons, List.contains_nil, Bool.or_false, blkB]
  cases c == 32 <;> cases c == 9 <;> cases c == 10 <;> cases c == 13 <;> rfl
theorem skip_trim : ∀ (l : Bs), skipL l = skipL (l.dropWhile blkB)
  | [] => rfl
  | c :: r => by
    rw [List.dropWhile_cons]
    by_cases h : blkB c = true
    · rw [if_pos h, ← skip_trim r, skipL, blankN, if_pos h]
      rfl
    · rw [if_neg h]
theorem skip_stop {l : Bs} (h : ∀ c r, l = c :: r → blkB c = false) (hp : ([47, 47] : Bs).isPrefixOf l = false) : skipL l = l := by
  cases l with
  | nil => rfl
  | cons c r =>
    rw [two_slash] at hp
    rw [skipL, blankN, if_neg (by rw [h c r rfl]; simp), if_neg (of_decide_eq_false hp)]
    rfl
theorem dropWhile_head {p : UInt8 → Bool} {l : Bs} {c : UInt8} {r : Bs} (h : l.dropWhile p = c :: r) : p c = false := by
  induction l with
  | nil => simp at h
  | cons a t ih =>
    rw [List.dropWhile_cons] at h
    by_cases ha : p a = true
    · rw [if_pos ha] at h; exact ih h
    · rw [if_neg ha] at h
      cases h
      simpa using ha
theorem remark_end : ∀ (l : Bs), (Lib.indexByte l 10 = -1 → blankN true l = l.length) ∧ (∀ e : Nat, Lib.indexByte l 10 = (e : Int) → e < l.length ∧ blankN true l = e + blankN false (l.drop e))
  | [] => by
    refine ⟨fun _ => rfl, fun e h => ?_⟩
    rw [Lib.indexByte] at h
    omega
  | c :: r => by
    obtain ⟨i1, i2⟩ := remark_end r
    have hge := Lib.indexByte_ge r 10
    rw [Lib.indexByte]
    by_cases hc : c = 10
    · subst hc
      rw [if_pos (by rfl)]
      refine ⟨fun h => by omega, fun e h => ?_⟩
      have : e = 0 := by omega
      subst this
      refine ⟨by simp, ?_⟩
      rw [List.drop_zero, Nat.zero_add, blankN, if_pos rfl, blankN, if_pos (by rfl)]
    · have hcb : (c == 10) = false := beq_eq_false_iff_ne.2 hc
      rw [hcb, if_neg (by simp), blankN, if_neg hc]
      by_cases hm : Lib.indexByte r 10 = -1
      · rw [hm, if_pos (by rfl)]
        refine ⟨fun _ => ?_, fun e h => by omega⟩
        rw [i1 hm, List.length_cons]
      · have hmb : (Lib.indexByte r 10 == -1) = false := beq_eq_false_iff_ne.2 hm
        rw [hmb, if_neg (by simp)]
        refine ⟨fun h => by omega, fun e h => ?_⟩
        obtain ⟨e', rfl⟩ : ∃ e', e = e' + 1 := ⟨e - 1, by omega⟩
        obtain ⟨h1, h2⟩ := i2 e' (by omega)
        refine ⟨by simp; omega, ?_⟩
        rw [h2, List.drop_succ_cons]
        omega
theorem slash_true {l : Bs} (hp : ([47, 47] : Bs).isPrefixOf l = true) : blankN false l = blankN true l ∧ 2 ≤ l.length ∧ (∀ e : Nat, Lib.indexByte l 10 = (e : Int) → 2 ≤ e) := by
  obtain ⟨t, rfl⟩ := List.isPrefixOf_iff_prefix.1 hp
  refine ⟨?_, by simp, fun e h => ?_⟩
  · show blankN false (47 :: 47 :: t) = blankN true (47 :: 47 :: t)
    conv => lhs; rw [blankN]
    conv => rhs; rw [blankN]
    rw [if_neg (by decide), if_pos ⟨rfl, rfl⟩, if_neg (by decide)]
  · have hge := Lib.indexByte_ge t 10
    have e1 : Lib.indexByte ([47, 47] ++ t) 10 = if (if Lib.indexByte t 10 == -1 then (-1 : Int) else Lib.indexByte t 10 + 1) == -1 then -1 else (if Lib.indexByte t 10 == -1 then (-1 : Int) else Lib.indexByte t 10 + 1) + 1 := rfl
    rw [e1] at h
    by_cases hm : Lib.indexByte t 10 = -1
    · rw [hm] at h; simp at h
    · have hmb : (Lib.indexByte t 10 == -1) = false := beq_eq_false_iff_ne.2 hm
      rw [hmb] at h
      simp only [if_neg (show ¬ (false = true) by simp)] at h
      have h2 : (Lib.indexByte t 10 + 1 == -1) = false := beq_eq_false_iff_ne.2 (by omega)
      rw [h2] at h
      simp only [if_neg (show ¬ (false = true) by simp)] at h
      omega
theorem skip_none {l : Bs} (hp : ([47, 47] : Bs).isPrefixOf l = true) (h : Lib.indexByte l 10 = -1) : skipL l = [] := by
  rw [skipL, (slash_true hp).1, (remark_end l).1 h, List.drop_length]
theorem skip_some {l : Bs} {e : Nat} (hp : ([47, 47] : Bs).isPrefixOf l = true) (h : Lib.indexByte l 10 = (e : Int)) : skipL l = skipL (l.drop e) := by
  rw [skipL, (slash_true hp).1, ((remark_end l).2 e h).2, skipL, List.drop_drop]
theorem trimLeft_calls (s : ByteArray) (w : World) :
    Calls Tryz.prog 91 #[.string s, .string ⟨#[32, 9, 10, 13]⟩] w fun e w' => e = .returned (.string (mkB ((bl s).dropWhile blkB))) ∧ Below w.heap.size w w' := by
  have h := Any.strings_TrimLeft_laid Tryz.lays161 (by kernel_rfl) s ⟨#[32, 9, 10, 13]⟩ w (by decide) (by
    intro j b hb
    have hm : b ∈ ([32, 9, 10, 13] : Bs) := List.mem_of_getElem? hb
    have : ∀ x ∈ ([32, 9, 10, 13] : Bs), x.toNat < 128 := by decide
    exact this b hm)
  refine h.mono ?_
  rintro e w' ⟨rfl, hb⟩
  refine ⟨?_, hb⟩
  have e1 : Lib.trimLeftS s.data.toList (⟨#[32, 9, 10, 13]⟩ : ByteArray).data.toList = (bl s).dropWhile blkB := by
    show (bl s).dropWhile (([32, 9, 10, 13] : Bs).contains ·) = _
    congr 1
    funext c
    exact blk_list c
  rw [e1]
  rfl
def strSize : Value → Nat
  | .string s => s.size
  | _ => 0
set_option maxRecDepth 100000 in
set_option maxHeartbeats 1000000 in
theorem skip_any (W : World) (s : ByteArray) (hs : s.size ≤ 140737488351232) : Calls Tryz.prog 54 #[.string s] W fun e W' => e = .returned (.string (mkB (skipL (bl s)))) ∧ Below W.heap.size W W' := by
  obtain ⟨T, hT⟩ : ∃ T, T = skipL (bl s) := ⟨_, rfl⟩
  rw [← hT]
  have HT := Lib.hid hT
  have hW := Lib.hid (Below.refl W.heap.size W)
  clear hT
  go_enter Tryz.func54, Tryz.ntmps54
  go_wp2
  go_loopw [0] (fun s0 wr => ∃ x : ByteArray, s0 = .string x ∧ x.size ≤ 140737488351232 ∧ Hid (T = skipL (bl x)) ∧ Hid (Below W.heap.size W wr)) (fun s0 _ => strSize s0)
  case atStart => exact ⟨s, rfl, hs, HT, hW⟩
  case round =>
    obtain ⟨x, rfl, hx, ht, hb⟩ := hrel
    obtain ⟨l1, hl1⟩ : ∃ l1, l1 = (bl x).dropWhile blkB := ⟨_, rfl⟩
    have hle : l1.length ≤ x.size := by
      rw [hl1, ← bl_len]
      exact (List.dropWhile_suffix _).sublist.length_le
    have hhead : ∀ c r, l1 = c :: r → blkB c = false := fun c r h => dropWhile_head (by rw [← hl1]; exact h)
    have ht1 : T = skipL l1 := by rw [ht.out, skip_trim, hl1]
    have k1 := Lib.hid (trimLeft_calls x wr)
    rw [← hl1] at k1
    have k2 := fun w => Tryz.strings_HasPrefix (mkB l1) ⟨#[47, 47]⟩ w
    have e2 : Lib.hasPrefix (mkB l1).data.toList (⟨#[47, 47]⟩ : ByteArray).data.toList = ([47, 47] : Bs).isPrefixOf l1 := by rw [Lib.hasPrefix, show (mkB l1).data.toList = l1 from bl_mkB l1]
    rw [e2] at k2
    have hsz : (mkB l1).size = l1.length := mkB_size l1
    cases hp : ([47, 47] : Bs).isPrefixOf l1
    · rw [hp] at k2
      have k2' := Lib.hid k2
      have h3 : T = l1 := by rw [ht1, skip_stop hhead hp]
      subst h3
      clear k2 hp hhead ht1 hl1 ht hsz e2
      go_wp2_with (first | (go_at_call 91; refine k1.out.mono ?_; rintro e w1 ⟨rfl, hb1⟩; have B1 := Lib.hid (hb.out.trans (hb1.mono hb.out.size)); clear hb1) | (go_at_call 92; refine (k2'.out _).mono ?_; rintro e w2 ⟨rfl, rfl⟩))
      go_ret
      exact ⟨rfl, B1.out⟩
    · rw [hp] at k2
      have k2' := Lib.hid k2
      have k3 := fun w => Tryz.strings_IndexByte (mkB l1) 10 w
      rw [show (mkB l1).data.toList = l1 from bl_mkB l1, show ((10 : Int).toNat.toUInt8) = 10 from rfl] at k3
      have hst := slash_true hp
      by_cases hi : Lib.indexByte l1 10 = -1
      · rw [hi] at k3
        have k3' := Lib.hid k3
        have h3 : T = [] := by rw [ht1, skip_none hp hi]
        subst h3
        clear k2 k3 hp hhead ht1 hl1 ht hsz e2 hst hi
        go_wp2_with (first | (go_at_call 91; refine k1.out.mono ?_; rintro e w1 ⟨rfl, hb1⟩; have B1 := Lib.hid (hb.out.trans (hb1.mono hb.out.size)); clear hb1) | (go_at_call 92; refine (k2'.out _).mono ?_; rintro e w2 ⟨rfl, rfl⟩) | (go_at_call 93; refine (k3'.out _).mono ?_; rintro e w3 ⟨rfl, rfl⟩))
        go_ret
        exact ⟨rfl, B1.out⟩
      · have hge := Lib.indexByte_ge l1 10
        obtain ⟨n, hn⟩ : ∃ n : Nat, Lib.indexByte l1 10 = (n : Int) := ⟨(Lib.indexByte l1 10).toNat, by omega⟩
        rw [hn] at k3
        have k3' := Lib.hid k3
        have hnl := ((remark_end l1).2 n hn).1
        have hn2 := hst.2.2 n hn
        have h3 := Lib.hid (show T = skipL (l1.drop n) by rw [ht1, skip_some hp hn])
        have h4 := Lib.hid (show bl ((mkB l1).extract n l1.length) = l1.drop n by rw [ext_list, bl_mkB, List.take_of_length_le (by rw [List.length_drop]; omega)])
        have h5 := Lib.hid (show ((mkB l1).extract n l1.length).size = l1.length - n by rw [← bl_len, ext_list, bl_mkB, List.take_of_length_le (by rw [List.length_drop]; omega), List.length_drop])
        have hnz : n ≤ (mkB l1).size := by omega
        have HZ := Lib.hid hsz
        clear k2 k3 hp hhead ht1 hl1 ht e2 hst hi hn hge hsz
        go_wp2_with (first | (go_at_call 91; refine k1.out.mono ?_; rintro e w1 ⟨rfl, hb1⟩; have B1 := Lib.hid (hb.out.trans (hb1.mono hb.out.size)); clear hb1) | (go_at_call 92; refine (k2'.out _).mono ?_; rintro e w2 ⟨rfl, rfl⟩) | (go_at_call 93; refine (k3'.out _).mono ?_; rintro e w3 ⟨rfl, rfl⟩))
        go_roundw
        case rel =>
          refine ⟨_, rfl, ?_, Lib.hid ?_, B1⟩
          · rw [HZ.out, h5.out]; omega
          · rw [HZ.out, h4.out]; exact h3.out
        case measure =>
          simp only [strSize]
          rw [HZ.out, h5.out]; omega
end Go.Proofs.YtcaigcmbgihhkaaGreatDoor
namespace Go.Proofs.YtcaigcmbgihhkaaGreatDoor
open Go Go.RowKit
set_option linter.unusedVariables false
set_option linter.unusedSimpArgs false
attribute [local go_sem] Oper.semAt_some
def foldP (u : Nat) (c : UInt8) : Nat := (u * 10 % 18446744073709551616 + (c.toNat + 208) % 256) % 18446744073709551616
theorem foldP_lt (u : Nat) (c : UInt8) : foldP u c < 18446744073709551616 := Nat.mod_lt _ (by decide)
theorem foldP_val : ∀ (m : Nat) (t : Bs), t.length = m → t.all digB = true → valL t < 9223372036854775808 → t.foldl foldP 0 = valL t := by
  intro m
  induction m with
  | zero => intro t h _ _; rw [List.eq_nil_of_length_eq_zero h]; rfl
  | succ m ih =>
    intro t hl hd hv
    obtain ⟨i, c, rfl⟩ := snoc_cases t (by intro e; simp [e] at hl)
    rw [List.all_append] at hd
    simp only [Bool.and_eq_true, List.all_cons, List.all_nil, Bool.and_true] at hd
    have hc := hd.2
    simp only [digB, Bool.and_eq_true, decide_eq_true_eq] at hc
    rw [valL_snoc] at hv ⊢
    rw [List.foldl_append, List.foldl_cons, List.foldl_nil, ih i (by simpa using hl) hd.1 (by omega), foldP]
    omega
theorem read_alike (t : Bs) (hd : t.head?.any digB = true) (N : Int) (hN : N = wrap64 ((t.foldl foldP 0 : Nat) : Int)) : (textZ N = t ∧ rres (readL t) = (N, 0)) ∨ (textZ N ≠ t ∧ rres (readL t) = (0, 5)) := by
  have hrg := wrap_range ((t.foldl foldP 0 : Nat) : Int)
  rw [← hN] at hrg
  by_cases he : textZ N = t
  · left
    obtain ⟨h1, h2⟩ := readL_text t N hrg.1 hrg.2 hd he
    refine ⟨he, ?_⟩
    rw [h1, rres]
    congr 1
    omega
  · right
    refine ⟨he, ?_⟩
    cases hr : readL t with
    | none => rfl
    | some v =>
      exfalso
      obtain ⟨h1, h2, h3, h4, h5, h6⟩ := readL_some hr
      have hv := foldP_val _ t rfl h4 (by rw [h3]; exact h2)
      rw [h3] at hv
      apply he
      rw [hN, hv, wrap_nat (by omega)]
      exact h1
theorem foldP_int (u : Nat) (c : UInt8) : IntKind.u64.wrap (IntKind.u64.wrap ((u : Int) * 10) + ((c.toNat : Int) - 48) % 256) = ((foldP u c : Nat) : Int) := by
  have e1 : ((c.toNat : Int) - 48) % 256 = (((c.toNat + 208) % 256 : Nat) : Int) := by omega
  rw [e1, IntKind.wrap_u64, IntKind.wrap_u64, foldP]
  omega
theorem take_succ_fold {t : Bs} {k : Nat} {c : UInt8} (h : t[k]? = some c) : (t.take (k + 1)).foldl foldP 0 = foldP ((t.take k).foldl foldP 0) c := by
  rw [List.take_add_one, h, List.foldl_append]; rfl
set_option maxRecDepth 100000 in
set_option maxHeartbeats 2000000 in
theorem numread_any (W : World) (s : ByteArray) (hs : s.size ≤ 140737488351232) (hd : (bl s).head?.any digB = true) :
    Calls Tryz.prog 133 #[.string s] W fun e W' => e = .returned (.tuple #[.int .i64 (rres (readL (bl s))).1, .int .i64 (rres (readL (bl s))).2]) ∧ Below W.heap.size W W' := by
  obtain ⟨⟨r1, r2⟩, hR⟩ : ∃ R, R = rres (readL (bl s)) := ⟨_, rfl⟩
  rw [← hR]
  dsimp only
  have hpos : 0 < s.size := by
    rw [← bl_len]
    cases h : bl s with
    | nil => rw [h] at hd; simp at hd
    | cons a r => simp
  have hne45 : Lib.hasPrefix (bl s) [45] = false := by
    cases h : bl s with
    | nil => rfl
    | cons a r =>
      rw [h] at hd
      simp only [List.head?_cons, Option.any_some, digB, Bool.and_eq_true, decide_eq_true_eq] at hd
      have : (45 == a) = false := beq_eq_false_iff_ne.2 (fun e => by rw [← e] at hd; simp at hd)
      simp [Lib.hasPrefix, List.isPrefixOf, this]
  have hcut := fun w => Tryz.strings_CutPrefix s ⟨#[45]⟩ w
  have e1 : Lib.trimPrefix s.data.toList (⟨#[45]⟩ : ByteArray).data.toList = bl s := by
    show Lib.trimPrefix (bl s) [45] = bl s
    rw [Lib.trimPrefix, hne45]; rfl
  have e2 : Lib.hasPrefix s.data.toList (⟨#[45]⟩ : ByteArray).data.toList = false := hne45
  rw [e1, e2, show (⟨(bl s).toArray⟩ : ByteArray) = s from mkB_bl s] at hcut
  have hcut' := Lib.hid hcut
  have hz : (s.size == 0) = false := beq_eq_false_iff_ne.2 (by omega)
  have hzi : ((s.size : Int) == 0) = false := beq_eq_false_iff_ne.2 (by omega)
  clear hcut e1 e2 hne45
  by_cases h20 : 20 ≤ s.size
  · have hb : decide (20 ≤ s.size) = true := decide_eq_true h20
    have hbi : decide (20 ≤ (s.size : Int)) = true := decide_eq_true (by omega)
    have : readL (bl s) = none := by
      cases hr : readL (bl s) with
      | none => rfl
      | some v =>
        obtain ⟨_, _, _, _, h5, _⟩ := readL_some hr
        rw [bl_len] at h5; omega
    rw [this] at hR
    cases hR
    clear hd h20 this
    go_enter Tryz.func133, Tryz.ntmps133
    go_wp2_with (go_at_call 115; refine (hcut'.out _).mono ?_; rintro e w1 ⟨rfl, rfl⟩)
    go_ret2
    exact ⟨rfl, Below.refl _ _⟩
  · have hb : decide (20 ≤ s.size) = false := decide_eq_false h20
    have hbi : decide (20 ≤ (s.size : Int)) = false := decide_eq_false (by omega)
    have hlt20 : s.size < 20 := by omega
    have HR := Lib.hid hR
    have HD := Lib.hid hd
    clear hd hR h20
    go_enter Tryz.func133, Tryz.ntmps133
    go_wp2_with (go_at_call 115; refine (hcut'.out _).mono ?_; rintro e w1 ⟨rfl, rfl⟩)
    go_loop [6, 24] (fun s6 s24 => ∃ (u k : Nat), s6 = .int .u64 (u : Int) ∧ s24 = .int .i64 (k : Int) ∧ k ≤ s.size ∧ u < 18446744073709551616 ∧ Hid (u = ((bl s).take k).foldl foldP 0)) (fun _ s24 => s.size - (intOf s24).toNat)
    case atStart => exact ⟨0, 0, rfl, rfl, Nat.zero_le _, by omega, Lib.hid rfl⟩
    case round =>
      obtain ⟨u, k, rfl, rfl, hk, hu, hv⟩ := hrel
      by_cases hlt : k < s.size
      · obtain ⟨c, hc⟩ : ∃ c, (bl s)[k]? = some c := ⟨_, List.getElem?_eq_getElem (by rw [bl_len]; exact hlt)⟩
        have hsk : s[k] = c := by
          have h2 : (bl s)[k]'(by rw [bl_len]; exact hlt) = c := by
            rw [List.getElem?_eq_getElem (by rw [bl_len]; exact hlt)] at hc; exact Option.some.inj hc
          exact h2
        have hst := Lib.hid (take_succ_fold hc)
        have hfi := Lib.hid (foldP_int u c)
        have hfl := foldP_lt u c
        have HSK := Lib.hid hsk
        clear hc hsk
        go_wp2
        go_round
        case rel =>
          refine ⟨foldP u c, k + 1, ?_, by simp, by omega, hfl, Lib.hid (by rw [hst.out, ← hv.out])⟩
          rw [HSK.out, hfi.out]
        case measure => simp [intOf]; omega
      · obtain rfl : k = s.size := by omega
        have hv2 := hv.out
        rw [List.take_of_length_le (by rw [bl_len]; omega)] at hv2
        have hal := read_alike (bl s) HD.out (wrap64 (u : Int)) (by rw [hv2])
        have hrg := wrap_range (u : Int)
        have HT := Lib.hid (fun w => numtext_any w (wrap64 (u : Int)) hrg.1 hrg.2)
        have HRG := Lib.hid hrg
        clear hv hv2 hrg
        rcases hal with ⟨h1, h2⟩ | ⟨h1, h2⟩
        · have e3 := HR.out
          rw [h2] at e3
          cases e3
          have es : (textZ (wrap64 (u : Int)) == s.toList) = true := by rw [toList_bl, h1]; exact beq_self_eq_true _
          clear h1 h2 HR
          go_wp2_with fail
          refine (HT.out _).mono ?_
          rintro e w2 ⟨rfl, hb2⟩
          have B2 := Lib.hid hb2
          clear hb2
          go_wp2
          go_ret2
          exact ⟨rfl, B2.out⟩
        · have e3 := HR.out
          rw [h2] at e3
          cases e3
          have es : (textZ (wrap64 (u : Int)) == s.toList) = false := by
            rw [toList_bl]
            exact beq_eq_false_iff_ne.2 h1
          clear h1 h2 HR
          go_wp2_with fail
          refine (HT.out _).mono ?_
          rintro e w2 ⟨rfl, hb2⟩
          have B2 := Lib.hid hb2
          clear hb2
          go_wp2
          go_ret2
          exact ⟨rfl, B2.out⟩
end Go.Proofs.YtcaigcmbgihhkaaGreatDoor
namespace Go.Proofs.YtcaigcmbgihhkaaGreatDoor
open Go Go.RowKit Go.Proofs.YtcaigcmbgihhkaaGreatDoorW.PrintWords
set_option linter.unusedVariables false
set_option linter.unusedSimpArgs false
attribute [local go_sem] Oper.semAt_some
theorem strKeyed : Maps.Keyed Tryz.prog 9 := Maps.string_keyed Tryz.underlying9
def keysD (ks : List Bs) : DataW Unit := ks.foldl (fun D k => D.put (.string k) (.lit (.bool true))) (.map [])
theorem keysD_isMap (ks : List Bs) : Maps.IsMap (keysD ks) := by
  have key : ∀ (ks : List Bs) (D : DataW Unit), Maps.IsMap D → Maps.IsMap (ks.foldl (fun D k => D.put (.string k) (.lit (.bool true))) D) := by
    intro ks
    induction ks with
    | nil => intro D h; exact h
    | cons k r ih => intro D h; exact ih _ (h.put _ _)
  exact key ks _ ⟨[], rfl⟩
theorem keysD_snoc (ks : List Bs) (k : Bs) : keysD (ks ++ [k]) = (keysD ks).put (.string k) (.lit (.bool true)) := by simp [keysD]
theorem keysD_at (t : Bs) : ∀ (m : Nat) (ks : List Bs), ks.length = m → (keysD ks).atKey (.string t) (.lit (.bool false)) = .lit (.bool (decide (t ∈ ks))) := by
  intro m
  induction m with
  | zero => intro ks h; rw [List.eq_nil_of_length_eq_zero h]; rfl
  | succ m ih =>
    intro ks h
    obtain ⟨i, k, rfl⟩ := snoc_cases ks (by intro e; simp [e] at h)
    rw [keysD_snoc]
    by_cases hk : t = k
    · subst hk
      rw [Maps.atKey_put_same (keysD_isMap i) (by trivial)]
      simp
    · rw [Maps.atKey_put_other (by intro e; cases e; exact hk rfl), ih i (by simpa using h)]
      simp [hk]
def SetIn (W : World) (m : Nat) (ks : List Bs) : Prop := W.ownsMap Tryz.prog 9 (plainElem (H := Unit) Tryz.prog 4) m ks.length (keysD ks)
theorem SetIn.lt {W : World} {m : Nat} {ks : List Bs} (h : SetIn W m ks) : m < W.heap.size := by
  obtain ⟨es, c, hb, _⟩ := h
  exact (Array.getElem?_eq_some_iff.1 hb).1
theorem SetIn.below {W W' : World} {m : Nat} {ks : List Bs} (h : SetIn W m ks) (hb : Below W.heap.size W W') : SetIn W' m ks := by
  have hl := h.lt
  obtain ⟨es, c, hh, r⟩ := h
  exact ⟨es, c, (hb.block m hl).trans hh, r⟩
set_option maxRecDepth 100000 in
theorem SetIn.look {W : World} {m : Nat} {ks : List Bs} (h : SetIn W m ks) (s : ByteArray) (hs : s.size ≤ maxLen) :
    (Instr.lookup 116 (.map (some m)) (.string s) false).run Tryz.prog W = .ok (.bool (decide (bl s ∈ ks))) W := by
  obtain ⟨v, ps, hrun, hv⟩ := World.ownsMap.lookup h strKeyed Tryz.underlying116 (z := .bool false) (show (zeroValue 4).run Tryz.prog W = .ok (.bool false) W by kernel_rfl) (plainElem_bool Tryz.underlying4 false) (WideMaps.keyOf_string_mk Tryz.underlying9 hs)
  have hv2 : plainElem (H := Unit) Tryz.prog 4 v = some (.lit (.bool (decide (bl s ∈ ks))), ps) := by rw [← keysD_at (bl s) ks.length ks rfl]; exact hv
  clear hv
  unfold plainElem at hv2
  rw [Tryz.underlying4] at hv2
  rw [hrun]
  cases v with
  | bool b =>
    simp only [Option.some.injEq, Prod.mk.injEq, DataW.lit.injEq, Lit.bool.injEq] at hv2
    rw [hv2.1]
  | _ => simp at hv2
theorem wpList_lookup_set {ops : Array Oper} {rest : List Oper} {o : Oper} {a : Act} {Q : Exit → Act → World → Prop} (w : World) (hg : o.guard = none) (m x : Operand) (hop : o.op = Op.lookup 116 m x false)
    (b : Nat) (ks : List Bs) (s : ByteArray) (r : Bool) (hm : a.eval m = .map (some b)) (hx : a.eval x = .string s) (hown : SetIn w b ks) (hs : s.size ≤ maxLen) (hr : decide (bl s ∈ ks) = r)
    (hK : wpList Tryz.prog ops Q rest (a.put o.dst (.bool r)) w) : wpList Tryz.prog ops Q (o :: rest) a w := by
  refine wpList_plain hg fun K' hK' => ?_
  have hrun := hown.look s hs
  rw [hr] at hrun
  unfold Oper.wp
  simp [execOp, hop, hm, hx, hrun, Result.andThen]
  exact hK' _ _ hK
def wagg : Option (Int × Bs × Int × Nat) → Array Value
  | none => #[.int .i64 0, .string ⟨#[]⟩, .int .i64 0, .int .i64 0]
  | some (k, t, v, _) => #[.int .i64 k, .string (mkB t), .int .i64 v, .int .i64 0]
def wlen : Option (Int × Bs × Int × Nat) → Int
  | none => 0
  | some (_, _, _, n) => (n : Int)
def plainW (l : Bs) : Option (Int × Bs × Int × Nat) := if l.takeWhile partB = [] then none else plainL (l.takeWhile partB)
theorem takeWhile_at {l : Bs} {k : Nat} (hk : k ≤ l.length) (h1 : ∀ x ∈ l.take k, partB x = true) (h2 : k = l.length ∨ ∃ c, l[k]? = some c ∧ partB c = false) : l.takeWhile partB = l.take k := by
  induction l generalizing k with
  | nil => simp
  | cons a r ih =>
    cases k with
    | zero =>
      rcases h2 with h2 | ⟨c, h2, h3⟩
      · simp at h2
      · simp at h2; subst h2
        rw [List.takeWhile_cons, if_neg (by simp [h3])]; rfl
    | succ k =>
      have ha := h1 a (by simp)
      rw [List.takeWhile_cons, if_pos ha, List.take_succ_cons]
      congr 1
      refine ih (by simpa using hk) (fun x hx => h1 x (by rw [List.take_succ_cons]; exact List.mem_cons_of_mem _ hx)) ?_
      rcases h2 with h2 | ⟨c, h2, h3⟩
      · left; simpa using h2
      · right; exact ⟨c, by simpa using h2, h3⟩
set_option maxRecDepth 100000 in
set_option maxHeartbeats 4000000 in
theorem plain_any (W : World) (s : ByteArray) (m : Nat) (hs : s.size ≤ 140737488351232) (hM : SetIn W m keysL) :
    Calls Tryz.prog 95 #[.string s, .map (some m)] W fun e W' => e = .returned (.tuple #[.agg (wagg (plainW (bl s))), .int .i64 (wlen (plainW (bl s)))]) ∧ Below W.heap.size W W' := by
  obtain ⟨R, hR⟩ : ∃ R, R = plainW (bl s) := ⟨_, rfl⟩
  rw [← hR]
  have HR := Lib.hid hR
  have HM := Lib.hid hM
  have HB := Lib.hid (Blk.new W 36 #[.int .i64 0, .string ⟨#[]⟩, .int .i64 0, .int .i64 0])
  have HW := Lib.hid ((Below.refl W.heap.size W).alloc (Nat.le_refl _) (.cells #[.int .i64 0, .string ⟨#[]⟩, .int .i64 0, .int .i64 0] 36))
  clear hR hM
  go_enter Tryz.func95, Tryz.ntmps95
  go_wp2
  go_loopw [6] (fun s6 wr => ∃ k : Nat, s6 = .int .i64 (k : Int) ∧ k ≤ s.size ∧ Hid (∀ x ∈ (bl s).take k, partB x = true) ∧ Hid (Blk wr W.heap.size 36 #[.int .i64 0, .string ⟨#[]⟩, .int .i64 0, .int .i64 0]) ∧ Hid (Below W.heap.size W wr)) (fun s6 _ => s.size - (intOf s6).toNat)
  case atStart => exact ⟨0, rfl, Nat.zero_le _, Lib.hid (by simp), HB, HW⟩
  case round =>
    obtain ⟨k, rfl, hk, hall, hBk, hb⟩ := hrel
    by_cases hlt : k < s.size
    · obtain ⟨c, hc⟩ : ∃ c, (bl s)[k]? = some c := ⟨_, List.getElem?_eq_getElem (by rw [bl_len]; exact hlt)⟩
      have hsk : s[k] = c := by
        have h2 : (bl s)[k]'(by rw [bl_len]; exact hlt) = c := by
          rw [List.getElem?_eq_getElem (by rw [bl_len]; exact hlt)] at hc; exact Option.some.inj hc
        exact h2
      have hpt := part_tells c
      by_cases hp : partB c = true
      · rw [hp] at hpt
        have hst := Lib.hid (show ∀ x ∈ (bl s).take (k + 1), partB x = true by
          rw [List.take_add_one, hc]
          intro x hx
          rcases List.mem_append.1 hx with h | h
          · exact hall.out x h
          · simp at h; rw [h]; exact hp)
        have HC := Lib.hid (fun w => Ppart.lex_part.calls (c.toNat : Int) true w hpt)
        rw [← hsk] at HC
        clear hpt hp hc hsk
        go_wp2_with (go_at_call 132; refine (HC.out _).mono ?_; rintro e w2 ⟨rfl, ⟨nd, rfl⟩⟩)
        go_roundw
        case rel => exact ⟨k + 1, by simp, by omega, hst, Lib.hid (hBk.out.drewN _), Lib.hid (pw_below_drewN hb.out _)⟩
        case measure => simp [intOf]; omega
      · have hpf : partB c = false := by simpa using hp
        rw [hpf] at hpt
        have htw := takeWhile_at (l := bl s) (k := k) (by rw [bl_len]; omega) hall.out (.inr ⟨c, hc, hpf⟩)
        have HC := Lib.hid (fun w => Ppart.lex_part.calls (c.toNat : Int) false w hpt)
        rw [← hsk] at HC
        have HTW := Lib.hid htw
        clear hpt hp hc hsk hpf htw
        have f0 := hBk.out.frozen 0
        have f1 := hBk.out.frozen 1
        have f2 := hBk.out.frozen 2
        have f3 := hBk.out.frozen 3
        have g0 := hBk.out.cell 0
        have g1 := hBk.out.cell 1
        have g2 := hBk.out.cell 2
        have g3 := hBk.out.cell 3
        simp only [List.getElem?_toArray, List.getElem?_cons_succ, List.getElem?_cons_zero] at g0 g1 g2 g3
        by_cases hk0 : k = 0
        · subst hk0
          have hRn : R = none := by rw [HR.out, plainW, HTW.out, List.take_zero, if_pos rfl]
          subst hRn
          go_wp2_with (first | (go_at_call 132; refine (HC.out _).mono ?_; rintro e w2 ⟨rfl, ⟨nd, rfl⟩⟩))
          refine bodyPost_ret (results_ct rfl _ _ W.heap.size 36 #[.int .i64 0, .string ⟨#[]⟩, .int .i64 0, .int .i64 0] (0, 0) _ rfl ((((hBk.out.set 0 _).set 1 _).set 2 _).set 3 _) Tryz.underlying36 rfl (by kernel_rfl)) rfl ?_
          exact ⟨rfl, by repeat (first | exact hb.out | exact hb.out.trans (HB3.out.mono hb.out.size) | exact (pw_below_drewN hb.out _).trans (HB3.out.mono hb.out.size) | apply pw_below_drewN | (refine Below.setCell ?_ (by first | exact Nat.le_refl _ | simp) _))⟩
        · have hkz : ((k : Int) == 0) = false := beq_eq_false_iff_ne.2 (by omega)
          obtain ⟨x, hx⟩ : ∃ x, x = s.extract 0 k := ⟨_, rfl⟩
          have hblx : bl x = (bl s).take k := by rw [hx, ext_list, List.drop_zero, Nat.sub_zero]
          have hxs : x.size = k := by rw [← bl_len, hblx, List.length_take, bl_len]; omega
          have hTx : plainW (bl s) = plainL (bl x) := by
            rw [plainW, HTW.out, ← hblx, if_neg]
            intro e
            have h0 : (bl x).length = 0 := by rw [e]; rfl
            rw [bl_len] at h0
            omega
          obtain ⟨c0, hc0⟩ : ∃ c0, (bl x)[0]? = some c0 := ⟨_, List.getElem?_eq_getElem (by rw [bl_len]; omega)⟩
          have hhd : (bl x).head? = some c0 := by rw [← hc0, List.head?_eq_getElem?]
          have hx0 : ∀ h : 0 < x.size, x[0] = c0 := fun h => by
            have h2 : (bl x)[0]'(by rw [bl_len]; exact h) = c0 := by
              rw [List.getElem?_eq_getElem (by rw [bl_len]; exact h)] at hc0; exact Option.some.inj hc0
            exact h2
          have hxpos : 0 < x.size := by omega
          have hx0' := hx0 hxpos
          have HXS := Lib.hid hxs
          have HTX := Lib.hid hTx
          have HHD := Lib.hid hhd
          have hxle : x.size ≤ 140737488351232 := by omega
          have hxm : x.size ≤ maxLen := by unfold maxLen; omega
          have hx' := hx.symm
          clear hx hblx hTx hc0 hhd hx0 hxs
          by_cases hd : digB c0 = true
          · have hdd := hd
            simp only [digB, Bool.and_eq_true, decide_eq_true_eq] at hdd
            have t1 : (48 : Int) ≤ (x[0].toNat : Int) := by rw [hx0']; omega
            have t2 : (x[0].toNat : Int) ≤ 57 := by rw [hx0']; omega
            have hrd := fun w => numread_any w x hxle (by rw [HHD.out]; exact hd)
            have hpl : (readL (bl x) = none → plainL (bl x) = none) ∧ (∀ v, readL (bl x) = some v → plainL (bl x) = some (2, bl x, (v : Int), (bl x).length)) := ⟨fun h => by rw [plainL, HHD.out, Option.any_some, if_pos hd, h], fun v h => by rw [plainL, HHD.out, Option.any_some, if_pos hd, h]⟩
            cases hrl : readL (bl x) with
            | none =>
              rw [hrl] at hrd
              have hRn : R = none := by rw [HR.out, HTX.out, hpl.1 hrl]
              subst hRn
              have HRD := Lib.hid hrd
              clear hrd hpl hrl hdd hd hx0'
              go_wp2_with (first | (go_at_call 132; refine (HC.out _).mono ?_; rintro e w2 ⟨rfl, ⟨nd, rfl⟩⟩) | (go_at_call 133; refine (HRD.out _).mono ?_; rintro e w3 ⟨rfl, hb3⟩; have hBk3 := Blk.below (t := 36) (cs := #[.int .i64 0, .string ⟨#[]⟩, .int .i64 0, .int .i64 0]) (by exact hBk.out) hb3 (by exact hBk.out.lt); have f0 := hBk3.frozen 0; have f1 := hBk3.frozen 1; have f2 := hBk3.frozen 2; have f3 := hBk3.frozen 3; have g0 := hBk3.cell 0; have g1 := hBk3.cell 1; have g2 := hBk3.cell 2; have g3 := hBk3.cell 3; simp only [List.getElem?_toArray, List.getElem?_cons_succ, List.getElem?_cons_zero] at g0 g1 g2 g3; have HB3 := Lib.hid hb3; have HBK3 := Lib.hid hBk3; clear hb3 hBk3))
              refine bodyPost_ret (results_ct rfl _ _ W.heap.size 36 #[.int .i64 0, .string ⟨#[]⟩, .int .i64 0, .int .i64 0] (0, 0) _ rfl ((((HBK3.out.set 0 _).set 1 _).set 2 _).set 3 _) Tryz.underlying36 rfl (by kernel_rfl)) rfl ?_
              exact ⟨rfl, by repeat (first | exact hb.out | exact hb.out.trans (HB3.out.mono hb.out.size) | exact (pw_below_drewN hb.out _).trans (HB3.out.mono hb.out.size) | apply pw_below_drewN | (refine Below.setCell ?_ (by first | exact Nat.le_refl _ | simp) _))⟩
            | some v =>
              rw [hrl] at hrd
              have hRn : R = some (2, bl x, (v : Int), k) := by rw [HR.out, HTX.out, hpl.2 v hrl, bl_len, HXS.out]
              subst hRn
              have HRD := Lib.hid hrd
              clear hrd hpl hrl hdd hd hx0'
              go_wp2_with (first | (go_at_call 132; refine (HC.out _).mono ?_; rintro e w2 ⟨rfl, ⟨nd, rfl⟩⟩) | (go_at_call 133; refine (HRD.out _).mono ?_; rintro e w3 ⟨rfl, hb3⟩; have hBk3 := Blk.below (t := 36) (cs := #[.int .i64 0, .string ⟨#[]⟩, .int .i64 0, .int .i64 0]) (by exact hBk.out) hb3 (by exact hBk.out.lt); have f0 := hBk3.frozen 0; have f1 := hBk3.frozen 1; have f2 := hBk3.frozen 2; have f3 := hBk3.frozen 3; have g0 := hBk3.cell 0; have g1 := hBk3.cell 1; have g2 := hBk3.cell 2; have g3 := hBk3.cell 3; simp only [List.getElem?_toArray, List.getElem?_cons_succ, List.getElem?_cons_zero] at g0 g1 g2 g3; have HB3 := Lib.hid hb3; have HBK3 := Lib.hid hBk3; clear hb3 hBk3))
              refine bodyPost_ret (results_ct rfl _ _ W.heap.size 36 #[.int .i64 2, .string x, .int .i64 (v : Int), .int .i64 0] (0, 0) _ rfl ((((HBK3.out.set 0 _).set 1 _).set 2 _).set 3 _) Tryz.underlying36 rfl (by kernel_rfl)) rfl ?_
              exact ⟨by rw [wagg, mkB_bl]; rfl, by repeat (first | exact hb.out | exact hb.out.trans (HB3.out.mono hb.out.size) | exact (pw_below_drewN hb.out _).trans (HB3.out.mono hb.out.size) | apply pw_below_drewN | (refine Below.setCell ?_ (by first | exact Nat.le_refl _ | simp) _))⟩
          · have hdf : digB c0 = false := by simpa using hd
            have hpl : plainL (bl x) = if nameL (bl x) then (if bl x ∈ keysL then some (5, bl x, 0, (bl x).length) else some (1, bl x, 0, (bl x).length)) else none := by rw [plainL, HHD.out, Option.any_some, if_neg (by rw [hdf]; simp)]
            obtain ⟨kk, hkk⟩ := (bname_tells x hxle).rounds
            have htest : ((48 : Int) ≤ (x[0].toNat : Int) ∧ (57 : Int) < (x[0].toNat : Int)) ∨ (x[0].toNat : Int) < 48 := by
              rw [hx0']
              simp only [digB, Bool.and_eq_false_iff, decide_eq_false_iff_not] at hdf
              by_cases h48 : 48 ≤ c0.toNat
              · left; exact ⟨by omega, by omega⟩
              · right; omega
            have HKK := Lib.hid hkk
            have HPL := Lib.hid hpl
            clear hkk hpl hdf hd hx0'
            cases hnm : nameL (bl x)
            · have hRn : R = none := by rw [HR.out, HTX.out, HPL.out, hnm]; rfl
              subst hRn
              have hn := HKK.out
              rw [hnm] at hn
              have HC2 := Lib.hid (fun w => PName.bin_Name.calls kk x false w hn)
              clear hn hnm HKK
              rcases htest with ⟨t1, t2⟩ | t1
              all_goals
                go_wp2_with (first | (go_at_call 132; refine (HC.out _).mono ?_; rintro e w2 ⟨rfl, ⟨nd, rfl⟩⟩) | (go_at_call 117; refine (HC2.out _).mono ?_; rintro e w3 ⟨rfl, ⟨nd3, rfl⟩⟩))
                refine bodyPost_ret (results_ct rfl _ _ W.heap.size 36 #[.int .i64 0, .string ⟨#[]⟩, .int .i64 0, .int .i64 0] (0, 0) _ rfl ((((hBk.out.set 0 _).set 1 _).set 2 _).set 3 _) Tryz.underlying36 rfl (by kernel_rfl)) rfl ?_
                exact ⟨rfl, by repeat (first | exact hb.out | exact hb.out.trans (HB3.out.mono hb.out.size) | exact (pw_below_drewN hb.out _).trans (HB3.out.mono hb.out.size) | apply pw_below_drewN | (refine Below.setCell ?_ (by first | exact Nat.le_refl _ | simp) _))⟩
            · have hn := HKK.out
              rw [hnm] at hn
              have HC2 := Lib.hid (fun w => PName.bin_Name.calls kk x true w hn)
              have hSet : SetIn wr m keysL := HM.out.below (Below.mono hb.out (Nat.le_refl _))
              have HSET := Lib.hid hSet
              by_cases hmem : bl x ∈ keysL
              · have hRn : R = some (5, bl x, 0, k) := by rw [HR.out, HTX.out, HPL.out, hnm, if_pos rfl, if_pos hmem, bl_len, HXS.out]
                subst hRn
                have hmd := Lib.hid (decide_eq_true hmem)
                clear hn hnm HKK hSet hmem
                rcases htest with ⟨t1, t2⟩ | t1
                all_goals
                  go_wp2_with (first | (go_at_call 132; refine (HC.out _).mono ?_; rintro e w2 ⟨rfl, ⟨nd, rfl⟩⟩) | (go_at_call 117; refine (HC2.out _).mono ?_; rintro e w3 ⟨rfl, ⟨nd3, rfl⟩⟩) | (at_lookup; refine wpList_lookup_set _ rfl _ _ rfl m keysL x _ rfl rfl (by exact HSET.out) hxm hmd.out ?_))
                  refine bodyPost_ret (results_ct rfl _ _ W.heap.size 36 #[.int .i64 5, .string x, .int .i64 0, .int .i64 0] (0, 0) _ rfl ((((hBk.out.set 0 _).set 1 _).set 2 _).set 3 _) Tryz.underlying36 rfl (by kernel_rfl)) rfl ?_
                  exact ⟨by rw [wagg, mkB_bl]; rfl, by repeat (first | exact hb.out | exact hb.out.trans (HB3.out.mono hb.out.size) | exact (pw_below_drewN hb.out _).trans (HB3.out.mono hb.out.size) | apply pw_below_drewN | (refine Below.setCell ?_ (by first | exact Nat.le_refl _ | simp) _))⟩
              · have hRn : R = some (1, bl x, 0, k) := by rw [HR.out, HTX.out, HPL.out, hnm, if_pos rfl, if_neg hmem, bl_len, HXS.out]
                subst hRn
                have hmd := Lib.hid (decide_eq_false hmem)
                clear hn hnm HKK hSet hmem
                rcases htest with ⟨t1, t2⟩ | t1
                all_goals
                  go_wp2_with (first | (go_at_call 132; refine (HC.out _).mono ?_; rintro e w2 ⟨rfl, ⟨nd, rfl⟩⟩) | (go_at_call 117; refine (HC2.out _).mono ?_; rintro e w3 ⟨rfl, ⟨nd3, rfl⟩⟩) | (at_lookup; refine wpList_lookup_set _ rfl _ _ rfl m keysL x _ rfl rfl (by exact HSET.out) hxm hmd.out ?_))
                  refine bodyPost_ret (results_ct rfl _ _ W.heap.size 36 #[.int .i64 1, .string x, .int .i64 0, .int .i64 0] (0, 0) _ rfl ((((hBk.out.set 0 _).set 1 _).set 2 _).set 3 _) Tryz.underlying36 rfl (by kernel_rfl)) rfl ?_
                  exact ⟨by rw [wagg, mkB_bl]; rfl, by repeat (first | exact hb.out | exact hb.out.trans (HB3.out.mono hb.out.size) | exact (pw_below_drewN hb.out _).trans (HB3.out.mono hb.out.size) | apply pw_below_drewN | (refine Below.setCell ?_ (by first | exact Nat.le_refl _ | simp) _))⟩
    · have htw := takeWhile_at (l := bl s) (k := k) (by rw [bl_len]; omega) hall.out (.inl (by rw [bl_len]; omega))
      have HTW := Lib.hid htw
      clear htw
      have f0 := hBk.out.frozen 0
      have f1 := hBk.out.frozen 1
      have f2 := hBk.out.frozen 2
      have f3 := hBk.out.frozen 3
      have g0 := hBk.out.cell 0
      have g1 := hBk.out.cell 1
      have g2 := hBk.out.cell 2
      have g3 := hBk.out.cell 3
      simp only [List.getElem?_toArray, List.getElem?_cons_succ, List.getElem?_cons_zero] at g0 g1 g2 g3
      by_cases hk0 : k = 0
      · subst hk0
        have hRn : R = none := by rw [HR.out, plainW, HTW.out, List.take_zero, if_pos rfl]
        subst hRn
        go_wp2
        refine bodyPost_ret (results_ct rfl _ _ W.heap.size 36 #[.int .i64 0, .string ⟨#[]⟩, .int .i64 0, .int .i64 0] (0, 0) _ rfl ((((hBk.out.set 0 _).set 1 _).set 2 _).set 3 _) Tryz.underlying36 rfl (by kernel_rfl)) rfl ?_
        exact ⟨rfl, by repeat (first | exact hb.out | exact hb.out.trans (HB3.out.mono hb.out.size) | exact (pw_below_drewN hb.out _).trans (HB3.out.mono hb.out.size) | apply pw_below_drewN | (refine Below.setCell ?_ (by first | exact Nat.le_refl _ | simp) _))⟩
      · have hkz : ((k : Int) == 0) = false := beq_eq_false_iff_ne.2 (by omega)
        obtain ⟨x, hx⟩ : ∃ x, x = s.extract 0 k := ⟨_, rfl⟩
        have hblx : bl x = (bl s).take k := by rw [hx, ext_list, List.drop_zero, Nat.sub_zero]
        have hxs : x.size = k := by rw [← bl_len, hblx, List.length_take, bl_len]; omega
        have hTx : plainW (bl s) = plainL (bl x) := by
          rw [plainW, HTW.out, ← hblx, if_neg]
          intro e
          have h0 : (bl x).length = 0 := by rw [e]; rfl
          rw [bl_len] at h0
          omega
        obtain ⟨c0, hc0⟩ : ∃ c0, (bl x)[0]? = some c0 := ⟨_, List.getElem?_eq_getElem (by rw [bl_len]; omega)⟩
        have hhd : (bl x).head? = some c0 := by rw [← hc0, List.head?_eq_getElem?]
        have hx0 : ∀ h : 0 < x.size, x[0] = c0 := fun h => by
          have h2 : (bl x)[0]'(by rw [bl_len]; exact h) = c0 := by
            rw [List.getElem?_eq_getElem (by rw [bl_len]; exact h)] at hc0; exact Option.some.inj hc0
          exact h2
        have hxpos : 0 < x.size := by omega
        have hx0' := hx0 hxpos
        have HXS := Lib.hid hxs
        have HTX := Lib.hid hTx
        have HHD := Lib.hid hhd
        have hxle : x.size ≤ 140737488351232 := by omega
        have hxm : x.size ≤ maxLen := by unfold maxLen; omega
        have hx' := hx.symm
        clear hx hblx hTx hc0 hhd hx0 hxs
        by_cases hd : digB c0 = true
        · have hdd := hd
          simp only [digB, Bool.and_eq_true, decide_eq_true_eq] at hdd
          have t1 : (48 : Int) ≤ (x[0].toNat : Int) := by rw [hx0']; omega
          have t2 : (x[0].toNat : Int) ≤ 57 := by rw [hx0']; omega
          have hrd := fun w => numread_any w x hxle (by rw [HHD.out]; exact hd)
          have hpl : (readL (bl x) = none → plainL (bl x) = none) ∧ (∀ v, readL (bl x) = some v → plainL (bl x) = some (2, bl x, (v : Int), (bl x).length)) := ⟨fun h => by rw [plainL, HHD.out, Option.any_some, if_pos hd, h], fun v h => by rw [plainL, HHD.out, Option.any_some, if_pos hd, h]⟩
          cases hrl : readL (bl x) with
          | none =>
            rw [hrl] at hrd
            have hRn : R = none := by rw [HR.out, HTX.out, hpl.1 hrl]
            subst hRn
            have HRD := Lib.hid hrd
            clear hrd hpl hrl hdd hd hx0'
            go_wp2_with (first | (go_at_call 133; refine (HRD.out _).mono ?_; rintro e w3 ⟨rfl, hb3⟩; have hBk3 := Blk.below (t := 36) (cs := #[.int .i64 0, .string ⟨#[]⟩, .int .i64 0, .int .i64 0]) (by exact hBk.out) hb3 (by exact hBk.out.lt); have f0 := hBk3.frozen 0; have f1 := hBk3.frozen 1; have f2 := hBk3.frozen 2; have f3 := hBk3.frozen 3; have g0 := hBk3.cell 0; have g1 := hBk3.cell 1; have g2 := hBk3.cell 2; have g3 := hBk3.cell 3; simp only [List.getElem?_toArray, List.getElem?_cons_succ, List.getElem?_cons_zero] at g0 g1 g2 g3; have HB3 := Lib.hid hb3; have HBK3 := Lib.hid hBk3; clear hb3 hBk3))
            refine bodyPost_ret (results_ct rfl _ _ W.heap.size 36 #[.int .i64 0, .string ⟨#[]⟩, .int .i64 0, .int .i64 0] (0, 0) _ rfl ((((HBK3.out.set 0 _).set 1 _).set 2 _).set 3 _) Tryz.underlying36 rfl (by kernel_rfl)) rfl ?_
            exact ⟨rfl, by repeat (first | exact hb.out | exact hb.out.trans (HB3.out.mono hb.out.size) | exact (pw_below_drewN hb.out _).trans (HB3.out.mono hb.out.size) | apply pw_below_drewN | (refine Below.setCell ?_ (by first | exact Nat.le_refl _ | simp) _))⟩
          | some v =>
            rw [hrl] at hrd
            have hRn : R = some (2, bl x, (v : Int), k) := by rw [HR.out, HTX.out, hpl.2 v hrl, bl_len, HXS.out]
            subst hRn
            have HRD := Lib.hid hrd
            clear hrd hpl hrl hdd hd hx0'
            go_wp2_with (first | (go_at_call 133; refine (HRD.out _).mono ?_; rintro e w3 ⟨rfl, hb3⟩; have hBk3 := Blk.below (t := 36) (cs := #[.int .i64 0, .string ⟨#[]⟩, .int .i64 0, .int .i64 0]) (by exact hBk.out) hb3 (by exact hBk.out.lt); have f0 := hBk3.frozen 0; have f1 := hBk3.frozen 1; have f2 := hBk3.frozen 2; have f3 := hBk3.frozen 3; have g0 := hBk3.cell 0; have g1 := hBk3.cell 1; have g2 := hBk3.cell 2; have g3 := hBk3.cell 3; simp only [List.getElem?_toArray, List.getElem?_cons_succ, List.getElem?_cons_zero] at g0 g1 g2 g3; have HB3 := Lib.hid hb3; have HBK3 := Lib.hid hBk3; clear hb3 hBk3))
            refine bodyPost_ret (results_ct rfl _ _ W.heap.size 36 #[.int .i64 2, .string x, .int .i64 (v : Int), .int .i64 0] (0, 0) _ rfl ((((HBK3.out.set 0 _).set 1 _).set 2 _).set 3 _) Tryz.underlying36 rfl (by kernel_rfl)) rfl ?_
            exact ⟨by rw [wagg, mkB_bl]; rfl, by repeat (first | exact hb.out | exact hb.out.trans (HB3.out.mono hb.out.size) | exact (pw_below_drewN hb.out _).trans (HB3.out.mono hb.out.size) | apply pw_below_drewN | (refine Below.setCell ?_ (by first | exact Nat.le_refl _ | simp) _))⟩
        · have hdf : digB c0 = false := by simpa using hd
          have hpl : plainL (bl x) = if nameL (bl x) then (if bl x ∈ keysL then some (5, bl x, 0, (bl x).length) else some (1, bl x, 0, (bl x).length)) else none := by rw [plainL, HHD.out, Option.any_some, if_neg (by rw [hdf]; simp)]
          obtain ⟨kk, hkk⟩ := (bname_tells x hxle).rounds
          have htest : ((48 : Int) ≤ (x[0].toNat : Int) ∧ (57 : Int) < (x[0].toNat : Int)) ∨ (x[0].toNat : Int) < 48 := by
            rw [hx0']
            simp only [digB, Bool.and_eq_false_iff, decide_eq_false_iff_not] at hdf
            by_cases h48 : 48 ≤ c0.toNat
            · left; exact ⟨by omega, by omega⟩
            · right; omega
          have HKK := Lib.hid hkk
          have HPL := Lib.hid hpl
          clear hkk hpl hdf hd hx0'
          cases hnm : nameL (bl x)
          · have hRn : R = none := by rw [HR.out, HTX.out, HPL.out, hnm]; rfl
            subst hRn
            have hn := HKK.out
            rw [hnm] at hn
            have HC2 := Lib.hid (fun w => PName.bin_Name.calls kk x false w hn)
            clear hn hnm HKK
            rcases htest with ⟨t1, t2⟩ | t1
            all_goals
              go_wp2_with (first | (go_at_call 117; refine (HC2.out _).mono ?_; rintro e w3 ⟨rfl, ⟨nd3, rfl⟩⟩))
              refine bodyPost_ret (results_ct rfl _ _ W.heap.size 36 #[.int .i64 0, .string ⟨#[]⟩, .int .i64 0, .int .i64 0] (0, 0) _ rfl ((((hBk.out.set 0 _).set 1 _).set 2 _).set 3 _) Tryz.underlying36 rfl (by kernel_rfl)) rfl ?_
              exact ⟨rfl, by repeat (first | exact hb.out | exact hb.out.trans (HB3.out.mono hb.out.size) | exact (pw_below_drewN hb.out _).trans (HB3.out.mono hb.out.size) | apply pw_below_drewN | (refine Below.setCell ?_ (by first | exact Nat.le_refl _ | simp) _))⟩
          · have hn := HKK.out
            rw [hnm] at hn
            have HC2 := Lib.hid (fun w => PName.bin_Name.calls kk x true w hn)
            have hSet : SetIn wr m keysL := HM.out.below (Below.mono hb.out (Nat.le_refl _))
            have HSET := Lib.hid hSet
            by_cases hmem : bl x ∈ keysL
            · have hRn : R = some (5, bl x, 0, k) := by rw [HR.out, HTX.out, HPL.out, hnm, if_pos rfl, if_pos hmem, bl_len, HXS.out]
              subst hRn
              have hmd := Lib.hid (decide_eq_true hmem)
              clear hn hnm HKK hSet hmem
              rcases htest with ⟨t1, t2⟩ | t1
              all_goals
                go_wp2_with (first | (go_at_call 117; refine (HC2.out _).mono ?_; rintro e w3 ⟨rfl, ⟨nd3, rfl⟩⟩) | (at_lookup; refine wpList_lookup_set _ rfl _ _ rfl m keysL x _ rfl rfl (by exact HSET.out) hxm hmd.out ?_))
                refine bodyPost_ret (results_ct rfl _ _ W.heap.size 36 #[.int .i64 5, .string x, .int .i64 0, .int .i64 0] (0, 0) _ rfl ((((hBk.out.set 0 _).set 1 _).set 2 _).set 3 _) Tryz.underlying36 rfl (by kernel_rfl)) rfl ?_
                exact ⟨by rw [wagg, mkB_bl]; rfl, by repeat (first | exact hb.out | exact hb.out.trans (HB3.out.mono hb.out.size) | exact (pw_below_drewN hb.out _).trans (HB3.out.mono hb.out.size) | apply pw_below_drewN | (refine Below.setCell ?_ (by first | exact Nat.le_refl _ | simp) _))⟩
            · have hRn : R = some (1, bl x, 0, k) := by rw [HR.out, HTX.out, HPL.out, hnm, if_pos rfl, if_neg hmem, bl_len, HXS.out]
              subst hRn
              have hmd := Lib.hid (decide_eq_false hmem)
              clear hn hnm HKK hSet hmem
              rcases htest with ⟨t1, t2⟩ | t1
              all_goals
                go_wp2_with (first | (go_at_call 117; refine (HC2.out _).mono ?_; rintro e w3 ⟨rfl, ⟨nd3, rfl⟩⟩) | (at_lookup; refine wpList_lookup_set _ rfl _ _ rfl m keysL x _ rfl rfl (by exact HSET.out) hxm hmd.out ?_))
                refine bodyPost_ret (results_ct rfl _ _ W.heap.size 36 #[.int .i64 1, .string x, .int .i64 0, .int .i64 0] (0, 0) _ rfl ((((hBk.out.set 0 _).set 1 _).set 2 _).set 3 _) Tryz.underlying36 rfl (by kernel_rfl)) rfl ?_
                exact ⟨by rw [wagg, mkB_bl]; rfl, by repeat (first | exact hb.out | exact hb.out.trans (HB3.out.mono hb.out.size) | exact (pw_below_drewN hb.out _).trans (HB3.out.mono hb.out.size) | apply pw_below_drewN | (refine Below.setCell ?_ (by first | exact Nat.le_refl _ | simp) _))⟩
end Go.Proofs.YtcaigcmbgihhkaaGreatDoor
namespace Go.Proofs.YtcaigcmbgihhkaaGreatDoor
open Go Go.RowKit Go.Proofs.YtcaigcmbgihhkaaGreatDoorW.PrintWords
set_option linter.unusedVariables false
set_option linter.unusedSimpArgs false
attribute [local go_sem] Oper.semAt_some
def SpaceAt (w : World) : Prop := Lib.TabIs Tryz.prog w "strings.asciiSpace" .u8 Lib.asciiSpaceTab
theorem gSpace : Tryz.prog.globalNamed "strings.asciiSpace" = some 0 := by kernel_rfl
theorem SpaceAt.pos {w : World} (h : SpaceAt w) : 0 < w.heap.size := by
  unfold SpaceAt Lib.TabIs World.var? at h
  rw [gSpace] at h
  simp only [Option.bind_some] at h
  cases hg : w.heap[0]? with
  | none => rw [hg] at h; simp at h
  | some o => exact (Array.getElem?_eq_some_iff.1 hg).1
theorem SpaceAt.mono {w w' : World} (h : SpaceAt w) (hb : Below w.heap.size w w') : SpaceAt w' := by
  have hp := h.pos
  unfold SpaceAt Lib.TabIs World.var? at h ⊢
  rw [gSpace] at h ⊢
  simp only [Option.bind_some] at h ⊢
  rw [hb.block _ hp]
  exact h
def doublesS : ByteArray := ⟨#[61, 61, 32, 33, 61, 32, 60, 61, 32, 62, 61, 32, 38, 38, 32, 124, 124]⟩
theorem doubles_fields : Lib.fields (bl doublesS) = doublesL := by decide
theorem ascii_all (l : Bs) (h : l.all (fun b => decide (b.toNat < 128)) = true) : ∀ (j : Nat) b, l[j]? = some b → b.toNat < 128 := by
  intro j b hb
  have := List.all_eq_true.1 h b (List.mem_of_getElem? hb)
  simpa using this
theorem fields_doubles (w : World) (hS : SpaceAt w) : Calls Tryz.prog 90 #[.string doublesS] w fun e w' => e = .returned (.slice (some ⟨w.heap.size, 0, none⟩) 6 6) ∧ w' = w.alloc (.cells (doublesL.map fun l => Value.string (mkB l)).toArray 9) := by
  have h := Tryz.strings_Fields_laid doublesS w (by decide) (ascii_all _ (by decide)) hS
  rw [show Lib.fields doublesS.data.toList = doublesL from doubles_fields] at h
  exact h
theorem word_split (c : UInt8) (r : Bs) : wordL (c :: r) = if c = 34 then (match textL r [] 1 with | none => none | some (t, n) => some (3, t, 0, n)) else match doublesL.find? (fun d => d.isPrefixOf (c :: r)) with
    | some d => some (4, d, 0, 2)
    | none => if c ∈ singlesL then some (4, [c], 0, 1) else plainW (c :: r) := by
  rw [wordL]
  by_cases h34 : c = 34
  · rw [if_pos h34, if_pos h34]
    cases textL r [] 1 with
    | none => rfl
    | some x => rfl
  · rw [if_neg h34, if_neg h34]
    by_cases hp : partB c = true
    · rw [if_pos hp]
      have h1 : doublesL.find? (fun d => d.isPrefixOf (c :: r)) = none := by
        rw [List.find?_eq_none]
        intro d hd hpre
        have : ∀ d ∈ doublesL, ∀ x, d.head? = some x → partB x = false := by decide
        obtain ⟨t, ht⟩ := List.isPrefixOf_iff_prefix.1 hpre
        cases d with
        | nil => have : ∀ d ∈ doublesL, d ≠ [] := by decide
                 exact this _ hd rfl
        | cons a b =>
          cases ht
          have := this _ hd c rfl
          rw [hp] at this
          cases this
      have h2 : c ∉ singlesL := by
        intro hc
        have : ∀ x ∈ singlesL, partB x = false := by decide
        rw [this c hc] at hp
        cases hp
      rw [h1]
      simp only
      rw [if_neg h2, plainW, if_neg]
      rw [List.takeWhile_cons, if_pos hp]
      simp
    · rw [if_neg hp, signL]
      cases doublesL.find? (fun d => d.isPrefixOf (c :: r)) with
      | some d => rfl
      | none =>
        simp only
        split
        · rfl
        · rw [plainW, if_pos (by rw [List.takeWhile_cons, if_neg hp])]
theorem index_singles (c : UInt8) : (0 ≤ Lib.indexByte singlesL c) ↔ c ∈ singlesL := by
  have key : ∀ l : Bs, (0 ≤ Lib.indexByte l c) ↔ c ∈ l := by
    intro l
    induction l with
    | nil => simp [Lib.indexByte]
    | cons a r ih =>
      rw [Lib.indexByte]
      have hge := Lib.indexByte_ge r c
      by_cases ha : a = c
      · subst ha; simp
      · have hab : (a == c) = false := beq_eq_false_iff_ne.2 ha
        rw [hab, if_neg (by simp)]
        by_cases hm : Lib.indexByte r c = -1
        · rw [hm, if_pos (by rfl)]
          have : c ∉ r := fun h => by have := ih.2 h; omega
          simp [this, Ne.symm ha]
        · have hmb : (Lib.indexByte r c == -1) = false := beq_eq_false_iff_ne.2 hm
          rw [hmb, if_neg (by simp)]
          have h1 : c ∈ r := ih.1 (by omega)
          exact ⟨fun _ => by simp [h1], fun _ => by omega⟩
  exact key singlesL
theorem wagg_form (o : Option (Int × Bs × Int × Nat)) : ∃ (a0 : Int) (a1 : ByteArray) (a2 : Int), wagg o = #[.int .i64 a0, .string a1, .int .i64 a2, .int .i64 0] := by
  cases o with
  | none => exact ⟨_, _, _, rfl⟩
  | some x => obtain ⟨k, t, v, n⟩ := x; exact ⟨_, _, _, rfl⟩
theorem find_at {P : Bs → Bool} {l : List Bs} {k : Nat} {d : Bs} (h1 : ∀ x ∈ l.take k, P x = false) (h2 : l[k]? = some d) (h3 : P d = true) : l.find? P = some d := by
  induction l generalizing k with
  | nil => simp at h2
  | cons a r ih =>
    cases k with
    | zero => simp at h2; subst h2; rw [List.find?_cons, h3]
    | succ k =>
      have ha := h1 a (by simp)
      rw [List.find?_cons, ha]
      exact ih (fun x hx => h1 x (by rw [List.take_succ_cons]; exact List.mem_cons_of_mem _ hx)) (by simpa using h2)
set_option maxRecDepth 100000 in
set_option maxHeartbeats 4000000 in
theorem word_any (W : World) (s : ByteArray) (m : Nat) (hs : s.size ≤ 140737488351232) (hpos : 0 < s.size) (hM : SetIn W m keysL) (hS : SpaceAt W) :
    Calls Tryz.prog 55 #[.string s, .map (some m)] W fun e W' => e = .returned (.tuple #[.agg (wagg (wordL (bl s))), .int .i64 (wlen (wordL (bl s)))]) ∧ Below W.heap.size W W' := by
  obtain ⟨R, hR⟩ : ∃ R, R = wordL (bl s) := ⟨_, rfl⟩
  rw [← hR]
  obtain ⟨c, r, hl⟩ : ∃ c r, bl s = c :: r := by
    cases h : bl s with
    | nil => have := bl_len s; rw [h] at this; simp at this; omega
    | cons c r => exact ⟨c, r, rfl⟩
  rw [hl, word_split] at hR
  have hs0 : s[0] = c := by
    have h0 : (bl s)[0]'(by rw [bl_len]; exact hpos) = c := by simp [hl]
    exact h0
  have HM := Lib.hid hM
  have HS := Lib.hid hS
  have HB := Lib.hid (Blk.new W 36 #[.int .i64 0, .string ⟨#[]⟩, .int .i64 0, .int .i64 0])
  have HW := Lib.hid ((Below.refl W.heap.size W).alloc (Nat.le_refl _) (.cells #[.int .i64 0, .string ⟨#[]⟩, .int .i64 0, .int .i64 0] 36))
  have HL := Lib.hid hl
  have hspos : (0 : Int) < (s.size : Int) := by omega
  clear hM hS
  by_cases h34 : c = 34
  · rw [if_pos h34] at hR
    have ht : ((s[0].toNat : Int) == 34) = true := by rw [hs0, h34]; rfl
    obtain ⟨k, hk⟩ := (ltext_tells s hs c r hl).rounds
    have HT := Lib.hid (fun w => Ptext.lex_text.calls k s (tres0 (textL r [] 1)).1 (tres0 (textL r [] 1)).2.1 (tres0 (textL r [] 1)).2.2.1 (tres0 (textL r [] 1)).2.2.2.1 (tres0 (textL r [] 1)).2.2.2.2 w hk)
    have hres : (Value.agg (wagg R), wlen R) = (Value.agg #[.int .i64 (tres0 (textL r [] 1)).1, .string (tres0 (textL r [] 1)).2.1, .int .i64 (tres0 (textL r [] 1)).2.2.1, .int .i64 (tres0 (textL r [] 1)).2.2.2.1], (tres0 (textL r [] 1)).2.2.2.2) := by
      rw [hR]
      cases textL r [] 1 with
      | none => rfl
      | some x => obtain ⟨t, n⟩ := x; rfl
    generalize tres0 (textL r [] 1) = T at HT hres
    obtain ⟨T1, T2, T3, T4, T5⟩ := T
    dsimp only at HT hres
    have HRES := Lib.hid hres
    clear hres hk hR hl hs0 h34
    go_enter Tryz.func55, Tryz.ntmps55
    go_wp2_with fail
    refine (HT.out _).mono ?_
    rintro e w3 ⟨rfl, hb3⟩
    have hBk3 := HB.out.below hb3 HB.out.lt
    have f0 := hBk3.frozen 0
    have f1 := hBk3.frozen 1
    have f2 := hBk3.frozen 2
    have f3 := hBk3.frozen 3
    have g0 := hBk3.cell 0
    have g1 := hBk3.cell 1
    have g2 := hBk3.cell 2
    have g3 := hBk3.cell 3
    simp only [List.getElem?_toArray, List.getElem?_cons_succ, List.getElem?_cons_zero] at g0 g1 g2 g3
    have HB3 := Lib.hid hb3
    have HBK3 := Lib.hid hBk3
    clear hb3 hBk3
    go_wp2
    refine bodyPost_ret (results_ct rfl _ _ W.heap.size 36 #[.int .i64 T1, .string T2, .int .i64 T3, .int .i64 T4] (0, 0) _ rfl ((((HBK3.out.set 0 _).set 1 _).set 2 _).set 3 _) Tryz.underlying36 rfl (by kernel_rfl)) rfl ?_
    have e := HRES.out
    simp only [Prod.mk.injEq] at e
    refine ⟨by rw [e.1, e.2]; rfl, ?_⟩
    repeat (first | exact HW.out.trans (HB3.out.mono HW.out.size) | (refine Below.setCell ?_ (by first | exact Nat.le_refl _ | simp) _))
  · rw [if_neg h34] at hR
    have hc34 : (s[0] == 34) = false := by rw [hs0]; exact beq_eq_false_iff_ne.2 h34
    have ht : ((s[0].toNat : Int) == 34) = false := by
      rw [hs0]
      apply beq_eq_false_iff_ne.2
      intro h
      exact h34 ((u8_eq c 34 (by omega)).2 h)
    have HF := Lib.hid (fun w (h : Below W.heap.size W w) => fields_doubles w (HS.out.mono h))
    have HR := Lib.hid hR
    have HC0 := Lib.hid hs0
    clear hR hl h34 hs0
    go_enter Tryz.func55, Tryz.ntmps55
    go_wp2_with fail
    refine (HF.out _ HW.out).mono ?_
    rintro e w3 ⟨rfl, rfl⟩
    go_wp2_with fail
    have hbw := HB.out.alloc (.cells (doublesL.map fun l => Value.string (mkB l)).toArray 9)
    have hbs := Blk.new (W.alloc (.cells #[.int .i64 0, .string ⟨#[]⟩, .int .i64 0, .int .i64 0] 36)) 9 (doublesL.map fun l => Value.string (mkB l)).toArray
    have hbb := HW.out.alloc HW.out.size (.cells (doublesL.map fun l => Value.string (mkB l)).toArray 9)
    rw [World.size_alloc] at hbs
    obtain ⟨W1, hW1⟩ : ∃ W1, (W.alloc (.cells #[.int .i64 0, .string ⟨#[]⟩, .int .i64 0, .int .i64 0] 36)).alloc (.cells (doublesL.map fun l => Value.string (mkB l)).toArray 9) = W1 := ⟨_, rfl⟩
    rw [hW1] at hbw hbs hbb ⊢
    clear hW1 HB HW
    have HBW := Lib.hid hbw
    have HBS := Lib.hid hbs
    have HBB := Lib.hid hbb
    have f0 := hbw.frozen 0
    have f1 := hbw.frozen 1
    have f2 := hbw.frozen 2
    have f3 := hbw.frozen 3
    have g0 := hbw.cell 0
    have g1 := hbw.cell 1
    have g2 := hbw.cell 2
    have g3 := hbw.cell 3
    simp only [List.getElem?_toArray, List.getElem?_cons_succ, List.getElem?_cons_zero] at g0 g1 g2 g3
    clear hbw hbs hbb
    have hd6 : doublesL.length = 6 := rfl
    go_loop [17] (fun s17 => ∃ k : Nat, k ≤ 6 ∧ s17 = .int .i64 (k : Int) ∧ Hid (∀ d ∈ doublesL.take k, d.isPrefixOf (bl s) = false)) (fun s17 => 6 - (intOf s17).toNat)
    case atStart => exact ⟨0, Nat.zero_le _, rfl, Lib.hid (by simp)⟩
    case round =>
      obtain ⟨k, hk, rfl, hno⟩ := hrel
      by_cases hlt : k < 6
      · obtain ⟨d, hd⟩ : ∃ d, doublesL[k]? = some d := ⟨_, List.getElem?_eq_getElem (by omega)⟩
        have hcell : W1.cell? ⟨W.heap.size + 1, k, none⟩ = some (.string (mkB d)) := by
          rw [HBS.out.cell, List.getElem?_toArray, List.getElem?_map, hd]; rfl
        have hds : (mkB d).size = 2 := by
          rw [mkB_size]
          have : ∀ x ∈ doublesL, x.length = 2 := by decide
          exact this d (List.mem_of_getElem? hd)
        have hpf := fun w => Tryz.strings_HasPrefix s (mkB d) w
        rw [show Lib.hasPrefix s.data.toList (mkB d).data.toList = d.isPrefixOf (bl s) by rw [Lib.hasPrefix, show (mkB d).data.toList = d from bl_mkB d]] at hpf
        cases hq : d.isPrefixOf (bl s)
        · rw [hq] at hpf
          have HPF := Lib.hid hpf
          have hst := Lib.hid (show ∀ x ∈ doublesL.take (k + 1), x.isPrefixOf (bl s) = false by
            rw [List.take_add_one, hd]
            intro x hx
            rcases List.mem_append.1 hx with h | h
            · exact hno.out x h
            · simp at h; rw [h]; exact hq)
          clear hpf hq hd
          go_wp2_with (go_at_call 92; refine (HPF.out _).mono ?_; rintro e w4 ⟨rfl, rfl⟩)
          go_round
          case rel => exact ⟨k + 1, by omega, by simp, hst⟩
          case measure => simp [intOf]; omega
        · rw [hq] at hpf
          have HPF := Lib.hid hpf
          have hRn : R = some (4, d, 0, 2) := by
            have e := HR.out
            rw [← HL.out, find_at hno.out hd hq] at e
            exact e
          subst hRn
          clear hpf hq hd
          go_wp2_with (go_at_call 92; refine (HPF.out _).mono ?_; rintro e w4 ⟨rfl, rfl⟩)
          refine bodyPost_ret (results_ct rfl _ _ W.heap.size 36 #[.int .i64 4, .string (mkB d), .int .i64 0, .int .i64 0] (0, 0) _ rfl ((((HBW.out.set 0 _).set 1 _).set 2 _).set 3 _) Tryz.underlying36 rfl (by kernel_rfl)) rfl ?_
          refine ⟨rfl, ?_⟩
          repeat (first | exact HBB.out | (refine Below.setCell ?_ (by first | exact Nat.le_refl _ | simp) _))
      · obtain rfl : k = 6 := by omega
        have hfn : doublesL.find? (fun d => d.isPrefixOf (bl s)) = none := by
          rw [List.find?_eq_none]
          intro d hd
          have := hno.out d (by rw [List.take_of_length_le (by omega)]; exact hd)
          rw [this]; simp
        have hR2 := HR.out
        rw [← HL.out, hfn] at hR2
        simp only at hR2
        have hix := fun w => Tryz.strings_IndexByte ⟨#[123, 125, 40, 41, 91, 93, 59, 44, 46, 61, 43, 45, 42, 47, 37, 60, 62, 33]⟩ (s[0].toNat : Int) w
        have hcc : (s[0].toNat : Int).toNat.toUInt8 = c := by rw [Int.toNat_natCast, HC0.out]; exact UInt8.ofNat_toNat
        rw [hcc, show (⟨#[123, 125, 40, 41, 91, 93, 59, 44, 46, 61, 43, 45, 42, 47, 37, 60, 62, 33]⟩ : ByteArray).data.toList = singlesL from rfl] at hix
        have hii := index_singles c
        generalize Lib.indexByte singlesL c = ix at hix hii
        have HIX := Lib.hid hix
        have HII := Lib.hid hii
        have hs1 : (1 : Int) ≤ (s.size : Int) := by omega
        have hs1n : 1 ≤ s.size := by omega
        clear hix hii hfn hcc
        by_cases hmem : c ∈ singlesL
        · rw [if_pos hmem] at hR2
          have hge := HII.out.2 hmem
          subst hR2
          have hx : Hid (mkB [c] = s.extract 0 1) := Lib.hid (by
            apply bl_inj
            rw [bl_mkB, ext_list, HL.out]; rfl)
          clear hmem HR
          go_wp2_with (go_at_call 93; refine (HIX.out _).mono ?_; rintro e w4 ⟨rfl, rfl⟩)
          refine bodyPost_ret (results_ct rfl _ _ W.heap.size 36 #[.int .i64 4, .string (s.extract 0 1), .int .i64 0, .int .i64 0] (0, 0) _ rfl ((((HBW.out.set 0 _).set 1 _).set 2 _).set 3 _) Tryz.underlying36 rfl (by kernel_rfl)) rfl ?_
          refine ⟨by rw [wagg, hx.out]; rfl, ?_⟩
          repeat (first | exact HBB.out | (refine Below.setCell ?_ (by first | exact Nat.le_refl _ | simp) _))
        · rw [if_neg hmem] at hR2
          have hge : ix < 0 := by
            by_cases h : 0 ≤ ix
            · exact absurd (HII.out.1 h) hmem
            · omega
          have hSM : SetIn W1 m keysL := HM.out.below HBB.out
          have hpl := plain_any W1 s m hs hSM
          rw [← hR2] at hpl
          obtain ⟨a0, a1, a2, hag⟩ := wagg_form R
          rw [hag] at hpl
          have HPL := Lib.hid hpl
          have HAG := Lib.hid hag
          clear hR2
          clear hmem HR hpl hag hSM
          go_wp2_with (first | (go_at_call 93; refine (HIX.out _).mono ?_; rintro e w4 ⟨rfl, rfl⟩) | (go_at_call 95; refine HPL.out.mono ?_; rintro e w5 ⟨rfl, hb5⟩; have hBk5 := HBW.out.below hb5 HBW.out.lt; have f0 := hBk5.frozen 0; have f1 := hBk5.frozen 1; have f2 := hBk5.frozen 2; have f3 := hBk5.frozen 3; have g0 := hBk5.cell 0; have g1 := hBk5.cell 1; have g2 := hBk5.cell 2; have g3 := hBk5.cell 3; simp only [List.getElem?_toArray, List.getElem?_cons_succ, List.getElem?_cons_zero] at g0 g1 g2 g3; have HB5 := Lib.hid hb5; have HBK5 := Lib.hid hBk5; clear hb5 hBk5))
          refine bodyPost_ret (results_ct rfl _ _ W.heap.size 36 #[.int .i64 a0, .string a1, .int .i64 a2, .int .i64 0] (0, 0) _ rfl ((((HBK5.out.set 0 _).set 1 _).set 2 _).set 3 _) Tryz.underlying36 rfl (by kernel_rfl)) rfl ?_
          refine ⟨by rw [HAG.out]; rfl, ?_⟩
          repeat (first | exact (HBB.out.trans (HB5.out.mono HBB.out.size)) | (refine Below.setCell ?_ (by first | exact Nat.le_refl _ | simp) _))
end Go.Proofs.YtcaigcmbgihhkaaGreatDoor
