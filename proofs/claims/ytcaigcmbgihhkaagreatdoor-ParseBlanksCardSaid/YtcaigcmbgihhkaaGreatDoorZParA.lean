/-
  Part of a proof: ParS, ParM, ParT, ParA, ParB, ParD, ParE, ParF, ParG, ParH.
-/
import Derived.Test.YtcaigcmbgihhkaaGreatDoorZRef
import Derived.Lib.Strings
import Derived.Lib.TrimByte
import Derived.Test.YtcaigcmbgihhkaaGreatDoorZIt
import Derived.Outline
import Derived.Deep.QuietTactic
import Derived.BigQuiet
import Derived.LoopTactic
import Derived.Test.YtcaigcmbgihhkaaGreatDoorZWord
import Derived.Test.YtcaigcmbgihhkaaGreatDoorZShelf
import Derived.Shelf.Strings.Trim
import Derived.WalkLawsBesides
import Derived.WalkSpells
import Derived.Deep.DeepCutAuto
import Derived.Deep.CutBlock
import Derived.Deep.LoopGhost
import Derived.Laws.Rows
namespace Go.Proofs.YtcaigcmbgihhkaaGreatDoor
open Go Go.RowKit
set_option linter.unusedVariables false
set_option linter.unusedSimpArgs false
inductive NodeD where
  | mk (op : Int) (text type : Bs) (n : Int) (kids : List NodeD) (at_ : Int)
namespace NodeD
def op : NodeD → Int | .mk o _ _ _ _ _ => o
def text : NodeD → Bs | .mk _ t _ _ _ _ => t
def type : NodeD → Bs | .mk _ _ t _ _ _ => t
def n : NodeD → Int | .mk _ _ _ n _ _ => n
def kids : NodeD → List NodeD | .mk _ _ _ _ k _ => k
def at_ : NodeD → Int | .mk _ _ _ _ _ a => a
end NodeD
structure PSt where
  ws : List WordD
  deep : Int
abbrev Fault := Int × Int
abbrev PM (α : Type) := PSt → Option (Except Fault (α × PSt))
def PM.pure {α : Type} (a : α) : PM α := fun s => some (.ok (a, s))
def PM.bind {α β : Type} (m : PM α) (f : α → PM β) : PM β := fun s =>
  match m s with
  | none => none
  | some (.error e) => some (.error e)
  | some (.ok (a, s')) => f a s'
def PM.fail {α : Type} (p : Int) (why : Int) : PM α := fun _ => some (.error (p, why))
theorem PM.bind_cases {α β : Type} {m : PM α} {f : α → PM β} {s : PSt} {r : Except Fault (β × PSt)} (h : PM.bind m f s = some r) :
    (∃ e, m s = some (.error e) ∧ r = .error e) ∨ ∃ a s', m s = some (.ok (a, s')) ∧ f a s' = some r := by
  unfold PM.bind at h
  split at h
  · cases h
  · rename_i e he
    cases h
    exact .inl ⟨e, he, rfl⟩
  · rename_i a s' he
    exact .inr ⟨a, s', he, h⟩
def placeP (en : Int) (s : PSt) : Int := match s.ws with | [] => en | x :: _ => x.at_
def aheadP (s : PSt) (n : Nat) (t : Bs) : Bool := match s.ws[n]? with | some x => (x.text == t) && (x.kind == 5 || x.kind == 4) | none => false
def kindP (s : PSt) (k : Int) : Bool := match s.ws with | x :: _ => x.kind == k | [] => false
def nextP (s : PSt) : PSt := ⟨s.ws.tail, s.deep⟩
def mayP (s : PSt) (t : Bs) : PSt := if aheadP s 0 t then nextP s else s
def mustP (en : Int) : List Bs → PM Unit
  | [] => PM.pure ()
  | t :: r => fun s => if aheadP s 0 t then mustP en r (nextP s) else PM.fail (placeP en s) 18 s
def nameP (en : Int) : PM (Bs × Int) := fun s => match s.ws with
  | x :: r => if x.kind = 1 then some (.ok ((x.text, x.at_), ⟨r, s.deep⟩)) else PM.fail (placeP en s) 18 s
  | [] => PM.fail (placeP en s) 18 s
def bareL (d : Bs) : Bs := Lib.trimLeftB d 91
def classS (d : Bs) : Bs := Lib.trimSuffix (Lib.trimPrefix d [76]) [59]
def classL (d : Bs) : Bool := Lib.hasPrefix d [76] && Lib.hasSuffix (Lib.trimPrefix d [76]) [59] && nameL (classS d)
def plainT (d : Bs) : Bool := d == [73] || d == [66] || d == [83]
def rightL (d : Bs) : Bool := decide (d.length - (bareL d).length ≤ 4) && (classL (bareL d) || plainT (bareL d))
def arrL (d : Bs) : Bool := rightL d && !(d.length - (bareL d).length == 4)
def bracketsP (en : Int) : Nat → Bs → PM Bs
  | 0, _ => fun _ => none
  | m + 1, d => fun s => if aheadP s 0 [91] && aheadP s 1 [93] then (if arrL d then bracketsP en m (91 :: d) (nextP (nextP s)) else PM.fail (placeP en s) 10 s) else some (.ok (d, s))
def baseP (en : Int) : PM Bs := fun s =>
  if aheadP s 0 [105, 110, 116] then some (.ok ([73], nextP s))
  else if aheadP s 0 [98, 111, 111, 108] then some (.ok ([66], nextP s))
  else if aheadP s 0 [115, 116, 114] then some (.ok ([83], nextP s))
  else PM.bind (nameP en) (fun x => PM.pure (76 :: x.1 ++ [59])) s
def partP (en : Int) : PM Bs := PM.bind (baseP en) fun d s => bracketsP en (s.ws.length + 1) d s
def wholeP (en : Int) : PM Bs := PM.bind (partP en) fun d s => if aheadP s 0 [91] then PM.fail (placeP en (nextP s)) 18 s else some (.ok (d, s))
inductive NT where
  | block | loop (acc : List NodeD) (p : Int) | round | stmt | set (p : Int) | expr | rank (k : Nat) | ranks (k : Nat) (n : NodeD) | un | list (acc : List NodeD) | post | posts (n : NodeD) | made (p : Int) | prim
def ranksL : Nat → List Bs
  | 0 => [[124, 124]]
  | 1 => [[38, 38]]
  | 2 => [[60], [60, 61], [62], [62, 61], [61, 61], [33, 61]]
  | 3 => [[43], [45]]
  | _ => [[42], [47], [37]]
def downP (en : Int) (m : PM NodeD) : PM NodeD := fun s => if 24 < s.deep + 1 then PM.fail (placeP en s) 27 s else PM.bind m (fun n s' => some (.ok (n, ⟨s'.ws, s'.deep - 1⟩))) ⟨s.ws, s.deep + 1⟩
def plainsL : List (Bs × Int) := [([100, 111], 22), ([116, 104, 114, 111, 119], 26), ([115, 112, 97, 119, 110], 29), ([112, 114, 105, 110, 116], 30)]
def headsL : List (Bs × Int) := [([119, 104, 105, 108, 101], 24), ([115, 121, 110, 99], 28)]
def valuesL : List (Bs × Int) := [([116, 114, 117, 101], 3), ([102, 97, 108, 115, 101], 4), ([110, 117, 108, 108], 5), ([116, 104, 105, 115], 6)]
def lookL (l : List (Bs × Int)) (t : Bs) : Int := match l.find? (fun x => x.1 == t) with | some x => x.2 | none => 0
def kidsOf : NodeD → List NodeD := NodeD.kids
def runP (en : Int) : Nat → NT → PM NodeD
  | 0, _ => fun _ => none
  | m + 1, nt => let R := runP en m
    match nt with
    | .block => downP en fun s => PM.bind (mustP en [[123]]) (fun _ => R (.loop [] (placeP en s))) s
    | .loop acc p => fun s => if aheadP s 0 [125] then some (.ok (.mk 31 [] [] 0 acc p, nextP s)) else PM.bind (R .stmt) (fun n => R (.loop (acc ++ [n]) p)) s
    | .round => PM.bind (mustP en [[40]]) fun _ => PM.bind (R .expr) fun n => PM.bind (mustP en [[41]]) fun _ => PM.pure n
    | .stmt => fun s =>
      if aheadP s 0 [123] then R .block s
      else match s.ws with
      | [] => PM.fail (placeP en s) 18 s
      | x :: _ => if x.kind = 5 then
          let p := x.at_
          if 0 < lookL plainsL x.text then PM.bind (R .expr) (fun e => PM.bind (mustP en [[59]]) fun _ => PM.pure (.mk (lookL plainsL x.text) [] [] 0 [e] p)) (nextP s)
          else if 0 < lookL headsL x.text then PM.bind (R .round) (fun c => PM.bind (R .block) fun b => PM.pure (.mk (lookL headsL x.text) [] [] 0 [c, b] p)) (nextP s)
          else if aheadP s 0 [105, 102] then PM.bind (R .round) (fun c => PM.bind (R .block) fun b => fun s' => if aheadP s' 0 [101, 108, 115, 101] then PM.bind (R .block) (fun d => PM.pure (.mk 23 [] [] 0 [c, b, d] p)) (nextP s') else some (.ok (.mk 23 [] [] 0 [c, b] p, s'))) (nextP s)
          else if aheadP s 0 [114, 101, 116, 117, 114, 110] then
            (if aheadP (nextP s) 0 [59] then PM.bind (mustP en [[59]]) (fun _ => PM.pure (.mk 25 [] [] 0 [] p)) (nextP s) else PM.bind (R .expr) (fun e => PM.bind (mustP en [[59]]) fun _ => PM.pure (.mk 25 [] [] 0 [e] p)) (nextP s))
          else if aheadP s 0 [118, 97, 114] then PM.bind (wholeP en) (fun d => PM.bind (nameP en) fun x => PM.bind (mustP en [[61]]) fun _ => PM.bind (R .expr) fun e => PM.bind (mustP en [[59]]) fun _ => PM.pure (.mk 20 x.1 d 0 [e] p)) (nextP s)
          else if aheadP s 0 [115, 101, 116] then R (.set p) (nextP s)
          else if aheadP s 0 [116, 114, 121] then PM.bind (R .block) (fun b => PM.bind (mustP en [[99, 97, 116, 99, 104], [40]]) fun _ => PM.bind (nameP en) fun c => PM.bind (nameP en) fun x => PM.bind (mustP en [[41]]) fun _ => PM.bind (R .block) fun d => PM.pure (.mk 27 x.1 c.1 0 [b, d] p)) (nextP s)
          else PM.fail p 18 s
        else PM.fail (placeP en s) 18 s
    | .set p => PM.bind (R .post) fun t => PM.bind (mustP en [[61]]) fun _ => PM.bind (R .expr) fun e => PM.bind (mustP en [[59]]) fun _ => fun s => if t.op = 7 ∨ t.op = 8 ∨ t.op = 9 then some (.ok (.mk 21 [] [] 0 [t, e] p, s)) else PM.fail t.at_ 18 s
    | .expr => downP en (R (.rank 0))
    | .rank k => if k = 5 then R .un else PM.bind (R (.rank (k + 1))) fun n => R (.ranks k n)
    | .ranks k n => fun s => match (ranksL k).find? (fun t => aheadP s 0 t) with
      | none => some (.ok (n, s))
      | some t => PM.bind (R (.rank (k + 1))) (fun e => if k = 2 then PM.pure (.mk 17 t [] 0 [n, e] (placeP en s)) else R (.ranks k (.mk 17 t [] 0 [n, e] (placeP en s)))) (nextP s)
    | .un => downP en fun s =>
      if aheadP s 0 [45] then PM.bind (R .un) (fun e => PM.pure (.mk 15 [] [] 0 [e] (placeP en s))) (nextP s)
      else if aheadP s 0 [33] then PM.bind (R .un) (fun e => PM.pure (.mk 16 [] [] 0 [e] (placeP en s))) (nextP s)
      else R .post s
    | .list acc => fun s => if aheadP s 0 [41] then some (.ok (.mk 0 [] [] 0 acc 0, nextP s)) else PM.bind (if 1 < acc.length then mustP en [[44]] else PM.pure ()) (fun _ => PM.bind (R .expr) fun e => R (.list (acc ++ [e]))) s
    | .post => PM.bind (R .prim) fun n => R (.posts n)
    | .posts n => fun s =>
      let p := placeP en s
      if aheadP s 0 [46] then PM.bind (nameP en) (fun x => fun s' => if aheadP s' 0 [40] then PM.bind (R (.list [n])) (fun l => R (.posts (.mk 10 x.1 [] 0 (kidsOf l) p))) (nextP s') else R (.posts (.mk 8 x.1 [] 0 [n] p)) s') (nextP s)
      else if aheadP s 0 [91] then PM.bind (R .expr) (fun e => PM.bind (mustP en [[93]]) fun _ => R (.posts (.mk 9 [] [] 0 [n, e] p))) (nextP s)
      else if aheadP s 0 [105, 115] then PM.bind (partP en) (fun d => R (.posts (.mk 18 [] d 0 [n] p))) (nextP s)
      else if aheadP s 0 [97, 115] then PM.bind (partP en) (fun d => R (.posts (.mk 19 [] d 0 [n] p))) (nextP s)
      else some (.ok (n, s))
    | .made p => fun s =>
      if kindP s 1 && aheadP s 1 [40] then PM.bind (nameP en) (fun x => PM.bind (mustP en [[40], [41]]) fun _ => PM.pure (.mk 11 [] x.1 0 [] p)) s
      else PM.bind (partP en) (fun d => PM.bind (mustP en [[91]]) fun _ => PM.bind (R .expr) fun e => PM.bind (mustP en [[93]]) fun _ => PM.pure (.mk 12 [] d 0 [e] p)) s
    | .prim => fun s =>
      let p := placeP en s
      match s.ws with
      | [] => PM.fail p 18 s
      | x :: _ =>
        if x.kind = 2 then some (.ok (.mk 1 [] [] x.n [] p, nextP s))
        else if x.kind = 3 then some (.ok (.mk 2 x.text [] 0 [] p, nextP s))
        else if x.kind = 1 then some (.ok (.mk 7 x.text [] 0 [] p, nextP s))
        else if aheadP s 0 [40] then PM.bind (R .expr) (fun e => PM.bind (mustP en [[41]]) fun _ => PM.pure e) (nextP s)
        else if aheadP s 0 [114, 101, 97, 100] then PM.bind (mustP en [[40], [41]]) (fun _ => PM.pure (.mk 13 [] [] 0 [] p)) (nextP s)
        else if aheadP s 0 [108, 101, 110] then PM.bind (R .round) (fun e => PM.pure (.mk 14 [] [] 0 [e] p)) (nextP s)
        else if aheadP s 0 [110, 101, 119] then R (.made p) (nextP s)
        else if x.kind = 5 ∧ 0 < lookL valuesL x.text then some (.ok (.mk (lookL valuesL x.text) [] [] 0 [] p, nextP s))
        else PM.fail p 18 s
structure ParamD where
  name : Bs
  type : Bs
  at_ : Int
structure MethodD where
  name : Bs
  gives : Bs
  takes : List ParamD
  body : NodeD
  at_ : Int
structure ClassD where
  name : Bs
  super : Bs
  fields : List ParamD
  methods : List MethodD
  at_ : Int
def paramP (en : Int) : PM ParamD := PM.bind (wholeP en) fun d => PM.bind (nameP en) fun x => PM.pure ⟨x.1, d, x.2⟩
def takesP (en : Int) : Nat → List ParamD → PM (List ParamD)
  | 0, _ => fun _ => none
  | m + 1, acc => fun s => if aheadP s 0 [41] then some (.ok (acc, nextP s)) else PM.bind (if 0 < acc.length then mustP en [[44]] else PM.pure ()) (fun _ => PM.bind (paramP en) fun x => takesP en m (acc ++ [x])) s
def methodP (en : Int) (k : Nat) : PM MethodD :=
  PM.bind (fun s => if aheadP s 0 [117, 110, 105, 116] then some (.ok ([86], nextP s)) else wholeP en s) fun g => PM.bind (nameP en) fun x => PM.bind (mustP en [[40]]) fun _ => PM.bind (takesP en k []) fun t => PM.bind (runP en k .block) fun b => PM.pure ⟨x.1, g, t, b, x.2⟩
def membersP (en : Int) (k : Nat) : Nat → List ParamD → List MethodD → PM (List ParamD × List MethodD)
  | 0, _, _ => fun _ => none
  | m + 1, fs, ms => fun s => if aheadP s 0 [125] then some (.ok ((fs, ms), nextP s))
    else if aheadP s 0 [102, 105, 101, 108, 100] then PM.bind (paramP en) (fun x => PM.bind (mustP en [[59]]) fun _ => membersP en k m (fs ++ [x]) ms) (nextP s)
    else PM.bind (mustP en [[109, 101, 116, 104, 111, 100]]) (fun _ => PM.bind (methodP en k) fun x => membersP en k m fs (ms ++ [x])) s
def objectL : Bs := [79, 98, 106, 101, 99, 116]
def classP (en : Int) (k : Nat) : PM ClassD :=
  PM.bind (mustP en [[99, 108, 97, 115, 115]]) fun _ => PM.bind (nameP en) fun x =>
    PM.bind (fun s => if aheadP s 0 [101, 120, 116, 101, 110, 100, 115] then PM.bind (nameP en) (fun y => PM.pure y.1) (nextP s) else some (.ok (objectL, s))) fun u =>
      PM.bind (mustP en [[123]]) fun _ => PM.bind (membersP en k k [] []) fun m => PM.pure ⟨x.1, u, m.1, m.2, x.2⟩
def classesP (en : Int) (k : Nat) : Nat → List ClassD → PM (List ClassD)
  | 0, _ => fun _ => none
  | m + 1, acc => fun s => if s.ws = [] then some (.ok (acc, s)) else PM.bind (classP en k) (fun c => classesP en k m (acc ++ [c])) s
end Go.Proofs.YtcaigcmbgihhkaaGreatDoor
namespace Go.Proofs.YtcaigcmbgihhkaaGreatDoor
open Go Go.RowKit
set_option linter.unusedVariables false
set_option linter.unusedSimpArgs false
def Suf (s s' : PSt) : Prop := s'.deep = s.deep ∧ ∃ u, s.ws = u ++ s'.ws
theorem Suf.refl (s : PSt) : Suf s s := ⟨rfl, [], rfl⟩
theorem Suf.trans {a b c : PSt} (h : Suf a b) (k : Suf b c) : Suf a c := by
  obtain ⟨h1, u, hu⟩ := h
  obtain ⟨k1, v, hv⟩ := k
  exact ⟨k1.trans h1, u ++ v, by rw [hu, hv, List.append_assoc]⟩
theorem Suf.next (s : PSt) : Suf s (nextP s) := by
  obtain ⟨ws, dp⟩ := s
  refine ⟨rfl, ws.take 1, ?_⟩
  cases ws <;> rfl
theorem Suf.cons (x : WordD) (r : List WordD) (d : Int) : Suf ⟨x :: r, d⟩ ⟨r, d⟩ := ⟨rfl, [x], rfl⟩
def Mn {α : Type} (m : PM α) : Prop := ∀ s a s', m s = some (.ok (a, s')) → Suf s s'
theorem Mn.pure {α : Type} (a : α) : Mn (PM.pure a) := fun s b s' h => by
  simp only [PM.pure, Option.some.injEq, Except.ok.injEq, Prod.mk.injEq] at h
  rw [← h.2]; exact Suf.refl _
theorem Mn.fail {α : Type} (p w : Int) : Mn (PM.fail p w : PM α) := fun s b s' h => by simp [PM.fail] at h
theorem Mn.bind {α β : Type} {m : PM α} {f : α → PM β} (hm : Mn m) (hf : ∀ a, Mn (f a)) : Mn (PM.bind m f) := fun s b s' h => by
  rcases PM.bind_cases h with ⟨e, _, he⟩ | ⟨a, s1, h1, h2⟩
  · cases he
  · exact (hm s a s1 h1).trans (hf a s1 b s' h2)
theorem Mn.some {α : Type} {s s' : PSt} {a b : α} (h : (Option.some (Except.ok (a, s)) : Option (Except Fault (α × PSt))) = Option.some (Except.ok (b, s'))) : s = s' := by
  simp only [Option.some.injEq, Except.ok.injEq, Prod.mk.injEq] at h
  exact h.2
theorem mn_next {α : Type} {m : PM α} (hm : Mn m) : Mn (fun s => m (nextP s)) := fun s a s' h => (Suf.next s).trans (hm _ a s' h)
theorem mn_ite {α : Type} {c : PSt → Prop} [∀ s, Decidable (c s)] {f g : PM α} (hf : Mn f) (hg : Mn g) : Mn (fun s => if c s then f s else g s) := fun s a s' h => by
  dsimp only at h
  split at h
  · exact hf s a s' h
  · exact hg s a s' h
theorem mn_okn {α : Type} (a : PSt → α) : Mn (fun s => Option.some (Except.ok (a s, nextP s))) := fun s b s' h => by
  rw [← Mn.some h]; exact Suf.next s
theorem mn_ok {α : Type} (a : PSt → α) : Mn (fun s => Option.some (Except.ok (a s, s))) := fun s b s' h => by
  rw [← Mn.some h]; exact Suf.refl s
theorem mn_failS {α : Type} (p : PSt → Int) (w : Int) : Mn (fun s => (PM.fail (p s) w : PM α) s) := fun s b s' h => by simp [PM.fail] at h
theorem mn_at {α : Type} {F : PSt → PM α} (h : ∀ q, Mn (F q)) : Mn (fun s => F s s) := fun s a s' hh => h s s a s' hh
theorem mn_atn {α : Type} {F : PSt → PM α} (h : ∀ q, Mn (F q)) : Mn (fun s => F s (nextP s)) := fun s a s' hh => (Suf.next s).trans (h s _ a s' hh)
theorem mn_must (en : Int) : ∀ l, Mn (mustP en l)
  | [] => Mn.pure ()
  | t :: r => by
    show Mn (fun s => if aheadP s 0 t = true then mustP en r (nextP s) else PM.fail (placeP en s) 18 s)
    exact mn_ite (mn_next (mn_must en r)) (mn_failS _ _)
theorem mn_name (en : Int) : Mn (nameP en) := fun s a s' h => by
  obtain ⟨ws, dp⟩ := s
  cases ws with
  | nil => simp [nameP, PM.fail] at h
  | cons x r =>
    rw [nameP] at h
    dsimp only at h
    split at h
    · rw [← Mn.some h]; exact Suf.cons _ _ _
    · simp [PM.fail] at h
theorem mn_brackets (en : Int) : ∀ k d, Mn (bracketsP en k d)
  | 0, d => fun s a s' h => by simp [bracketsP] at h
  | k + 1, d => fun s a s' h => by
    rw [bracketsP] at h
    dsimp only at h
    split at h
    · split at h
      · exact (Suf.next s).trans ((Suf.next _).trans (mn_brackets en k _ _ a s' h))
      · simp [PM.fail] at h
    · rw [← Mn.some h]; exact Suf.refl _
theorem mn_base (en : Int) : Mn (baseP en) := by
  unfold baseP
  exact mn_ite (mn_okn _) (mn_ite (mn_okn _) (mn_ite (mn_okn _) (Mn.bind (mn_name en) (fun _ => Mn.pure _))))
theorem mn_part (en : Int) : Mn (partP en) := Mn.bind (mn_base en) (fun d => mn_at (F := fun q => bracketsP en (q.ws.length + 1) d) (fun q => mn_brackets en _ d))
theorem mn_whole (en : Int) : Mn (wholeP en) := Mn.bind (mn_part en) (fun d => mn_ite (mn_failS _ _) (mn_ok _))
theorem mn_down (en : Int) {m : PM NodeD} (hm : Mn m) : Mn (downP en m) := fun s a s' h => by
  unfold downP at h
  split at h
  · simp [PM.fail] at h
  · rcases PM.bind_cases h with ⟨e, _, he⟩ | ⟨n, s1, h1, h2⟩
    · cases he
    · obtain ⟨d1, u, hu⟩ := hm _ n s1 h1
      rw [← Mn.some h2]
      refine ⟨?_, u, hu⟩
      show s1.deep - 1 = s.deep
      rw [d1]
      show s.deep + 1 - 1 = s.deep
      omega
theorem mn_run (en : Int) : ∀ m nt, Mn (runP en m nt)
  | 0, nt => fun s a s' h => by simp [runP] at h
  | m + 1, nt => by
    have R := mn_run en m
    cases nt with
    | block => exact mn_down en (mn_at (F := fun q => PM.bind (mustP en [[123]]) (fun _ => runP en m (.loop [] (placeP en q)))) (fun q => Mn.bind (mn_must en _) (fun _ => R _)))
    | loop acc p => exact mn_ite (mn_okn _) (Mn.bind (R _) (fun n => R _))
    | round => exact Mn.bind (mn_must en _) (fun _ => Mn.bind (R _) (fun n => Mn.bind (mn_must en _) (fun _ => Mn.pure _)))
    | stmt =>
      intro s a s' h
      rw [runP] at h
      dsimp only at h
      split at h
      · exact R _ _ a s' h
      · split at h
        · simp [PM.fail] at h
        · split at h
          · split at h
            · exact (Suf.next s).trans (Mn.bind (R _) (fun e => Mn.bind (mn_must en _) (fun _ => Mn.pure _)) _ a s' h)
            · split at h
              · exact (Suf.next s).trans (Mn.bind (R _) (fun e => Mn.bind (R _) (fun _ => Mn.pure _)) _ a s' h)
              · split at h
                · exact (Suf.next s).trans (Mn.bind (R _) (fun c => Mn.bind (R _) (fun b => mn_ite (mn_next (Mn.bind (R _) (fun d => Mn.pure _))) (mn_ok _))) _ a s' h)
                · split at h
                  · split at h
                    · exact (Suf.next s).trans (Mn.bind (mn_must en _) (fun _ => Mn.pure _) _ a s' h)
                    · exact (Suf.next s).trans (Mn.bind (R _) (fun e => Mn.bind (mn_must en _) (fun _ => Mn.pure _)) _ a s' h)
                  · split at h
                    · exact (Suf.next s).trans (Mn.bind (mn_whole en) (fun d => Mn.bind (mn_name en) (fun x => Mn.bind (mn_must en _) (fun _ => Mn.bind (R _) (fun e => Mn.bind (mn_must en _) (fun _ => Mn.pure _))))) _ a s' h)
                    · split at h
                      · exact (Suf.next s).trans (R _ _ a s' h)
                      · split at h
                        · exact (Suf.next s).trans (Mn.bind (R _) (fun b => Mn.bind (mn_must en _) (fun _ => Mn.bind (mn_name en) (fun c => Mn.bind (mn_name en) (fun x => Mn.bind (mn_must en _) (fun _ => Mn.bind (R _) (fun d => Mn.pure _)))))) _ a s' h)
                        · simp [PM.fail] at h
          · simp [PM.fail] at h
    | set p => exact Mn.bind (R _) (fun t => Mn.bind (mn_must en _) (fun _ => Mn.bind (R _) (fun e => Mn.bind (mn_must en _) (fun _ => mn_ite (mn_ok _) (Mn.fail _ _)))))
    | expr => exact mn_down en (R _)
    | rank k =>
      rw [runP]
      split
      · exact R _
      · exact Mn.bind (R _) (fun n => R _)
    | ranks k n =>
      intro s a s' h
      rw [runP] at h
      dsimp only at h
      split at h
      · rw [← Mn.some h]; exact Suf.refl _
      · refine (Suf.next s).trans (Mn.bind (R _) (fun e => ?_) _ a s' h)
        split
        · exact Mn.pure _
        · exact R _
    | un => exact mn_down en (mn_ite (mn_atn (F := fun q => PM.bind (runP en m .un) (fun e => PM.pure (NodeD.mk 15 [] [] 0 [e] (placeP en q)))) (fun q => Mn.bind (R _) (fun e => Mn.pure _))) (mn_ite (mn_atn (F := fun q => PM.bind (runP en m .un) (fun e => PM.pure (NodeD.mk 16 [] [] 0 [e] (placeP en q)))) (fun q => Mn.bind (R _) (fun e => Mn.pure _))) (R _)))
    | list acc =>
      refine mn_ite (mn_okn _) (Mn.bind ?_ (fun _ => Mn.bind (R _) (fun e => R _)))
      split
      · exact mn_must en _
      · exact Mn.pure _
    | post => exact Mn.bind (R _) (fun n => R _)
    | posts n =>
      intro s a s' h
      rw [runP] at h
      dsimp only at h
      split at h
      · exact (Suf.next s).trans (Mn.bind (mn_name en) (fun x => mn_ite (mn_next (Mn.bind (R _) (fun l => R _))) (R _)) _ a s' h)
      · split at h
        · exact (Suf.next s).trans (Mn.bind (R _) (fun e => Mn.bind (mn_must en _) (fun _ => R _)) _ a s' h)
        · split at h
          · exact (Suf.next s).trans (Mn.bind (mn_part en) (fun d => R _) _ a s' h)
          · split at h
            · exact (Suf.next s).trans (Mn.bind (mn_part en) (fun d => R _) _ a s' h)
            · rw [← Mn.some h]; exact Suf.refl _
    | made p => exact mn_ite (Mn.bind (mn_name en) (fun x => Mn.bind (mn_must en _) (fun _ => Mn.pure _))) (Mn.bind (mn_part en) (fun d => Mn.bind (mn_must en _) (fun _ => Mn.bind (R _) (fun e => Mn.bind (mn_must en _) (fun _ => Mn.pure _)))))
    | prim =>
      intro s a s' h
      rw [runP] at h
      dsimp only at h
      split at h
      · simp [PM.fail] at h
      · split at h
        · rw [← Mn.some h]; exact Suf.next _
        · split at h
          · rw [← Mn.some h]; exact Suf.next _
          · split at h
            · rw [← Mn.some h]; exact Suf.next _
            · split at h
              · exact (Suf.next s).trans (Mn.bind (R _) (fun e => Mn.bind (mn_must en _) (fun _ => Mn.pure _)) _ a s' h)
              · split at h
                · exact (Suf.next s).trans (Mn.bind (mn_must en _) (fun _ => Mn.pure _) _ a s' h)
                · split at h
                  · exact (Suf.next s).trans (Mn.bind (R _) (fun e => Mn.pure _) _ a s' h)
                  · split at h
                    · exact (Suf.next s).trans (R _ _ a s' h)
                    · split at h
                      · rw [← Mn.some h]; exact Suf.next _
                      · simp [PM.fail] at h
end Go.Proofs.YtcaigcmbgihhkaaGreatDoor
namespace Go.Proofs.YtcaigcmbgihhkaaGreatDoor
open Go Go.RowKit
set_option linter.unusedVariables false
set_option linter.unusedSimpArgs false
theorem Mn.len {α : Type} {m : PM α} (h : Mn m) {s s' : PSt} {a : α} (e : m s = Option.some (.ok (a, s'))) : s'.ws.length ≤ s.ws.length := by
  obtain ⟨_, u, hu⟩ := h s a s' e
  rw [hu, List.length_append]; omega
def Ln {α : Type} (m : PM α) : Prop := ∀ s a s', m s = some (.ok (a, s')) → s'.ws.length < s.ws.length
theorem next_le (s : PSt) : (nextP s).ws.length ≤ s.ws.length := by simp [nextP]
theorem next_lt {s : PSt} (h : s.ws ≠ []) : (nextP s).ws.length < s.ws.length := by
  obtain ⟨ws, dp⟩ := s
  cases ws with
  | nil => exact absurd rfl h
  | cons x r => simp [nextP]
theorem ahead_ne {s : PSt} {t : Bs} (h : aheadP s 0 t = true) : s.ws ≠ [] := by
  intro e
  simp [aheadP, e] at h
theorem ahead_lt {s : PSt} {t : Bs} (h : aheadP s 0 t = true) : (nextP s).ws.length < s.ws.length := next_lt (ahead_ne h)
theorem Ln.bindL {α β : Type} {m : PM α} {f : α → PM β} (hm : Ln m) (hf : ∀ a, Mn (f a)) : Ln (PM.bind m f) := fun s b s' h => by
  rcases PM.bind_cases h with ⟨e, _, he⟩ | ⟨a, s1, h1, h2⟩
  · cases he
  · exact Nat.lt_of_le_of_lt ((hf a).len h2) (hm s a s1 h1)
theorem Ln.bindR {α β : Type} {m : PM α} {f : α → PM β} (hm : Mn m) (hf : ∀ a, Ln (f a)) : Ln (PM.bind m f) := fun s b s' h => by
  rcases PM.bind_cases h with ⟨e, _, he⟩ | ⟨a, s1, h1, h2⟩
  · cases he
  · exact Nat.lt_of_lt_of_le (hf a s1 b s' h2) (hm.len h1)
theorem ln_at {α : Type} {F : PSt → PM α} (h : ∀ q, Ln (F q)) : Ln (fun s => F s s) := fun s a s' hh => h s s a s' hh
theorem ln_must (en : Int) (t : Bs) (r : List Bs) : Ln (mustP en (t :: r)) := fun s a s' h => by
  rw [mustP] at h
  dsimp only at h
  split at h
  · rename_i ha
    exact Nat.lt_of_le_of_lt ((mn_must en r).len h) (ahead_lt ha)
  · simp [PM.fail] at h
theorem ln_name (en : Int) : Ln (nameP en) := fun s a s' h => by
  obtain ⟨ws, dp⟩ := s
  cases ws with
  | nil => simp [nameP, PM.fail] at h
  | cons x r =>
    rw [nameP] at h
    dsimp only at h
    split at h
    · rw [← Mn.some h]; simp
    · simp [PM.fail] at h
theorem ln_base (en : Int) : Ln (baseP en) := fun s a s' h => by
  unfold baseP at h
  split at h
  · rename_i ha; rw [← Mn.some h]; exact ahead_lt ha
  · split at h
    · rename_i ha; rw [← Mn.some h]; exact ahead_lt ha
    · split at h
      · rename_i ha; rw [← Mn.some h]; exact ahead_lt ha
      · exact Ln.bindL (ln_name en) (fun _ => Mn.pure _) s a s' h
theorem ln_part (en : Int) : Ln (partP en) := Ln.bindL (ln_base en) (fun d => mn_at (F := fun q => bracketsP en (q.ws.length + 1) d) (fun q => mn_brackets en _ d))
theorem ln_whole (en : Int) : Ln (wholeP en) := Ln.bindL (ln_part en) (fun d => mn_ite (mn_failS _ _) (mn_ok _))
theorem ln_down (en : Int) {m : PM NodeD} (hm : Ln m) : Ln (downP en m) := fun s a s' h => by
  unfold downP at h
  split at h
  · simp [PM.fail] at h
  · rcases PM.bind_cases h with ⟨e, _, he⟩ | ⟨n, s1, h1, h2⟩
    · cases he
    · have := hm _ n s1 h1
      rw [← Mn.some h2]
      exact this
def strictN : NT → Prop
  | .ranks _ _ => False
  | .posts _ => False
  | _ => True
theorem ln_run (en : Int) : ∀ m nt, strictN nt → Ln (runP en m nt)
  | 0, nt, _ => fun s a s' h => by simp [runP] at h
  | m + 1, nt, hs => by
    have R := mn_run en m
    have L := ln_run en m
    cases nt with
    | block => exact ln_down en (ln_at (F := fun q => PM.bind (mustP en [[123]]) (fun _ => runP en m (.loop [] (placeP en q)))) (fun q => Ln.bindL (ln_must en _ _) (fun _ => R _)))
    | loop acc p =>
      intro s a s' h
      rw [runP] at h
      dsimp only at h
      split at h
      · rename_i ha; rw [← Mn.some h]; exact ahead_lt ha
      · exact Ln.bindL (L .stmt trivial) (fun n => R _) s a s' h
    | round => exact Ln.bindL (ln_must en _ _) (fun _ => Mn.bind (R _) (fun n => Mn.bind (mn_must en _) (fun _ => Mn.pure _)))
    | stmt =>
      intro s a s' h
      rw [runP] at h
      dsimp only at h
      split at h
      · exact L .block trivial _ a s' h
      · split at h
        · simp [PM.fail] at h
        · rename_i x r hx
          have hne : s.ws ≠ [] := by rw [hx]; simp
          have hlt := next_lt hne
          have k : ∀ {M : PM NodeD}, Mn M → M (nextP s) = some (.ok (a, s')) → s'.ws.length < s.ws.length := fun hM e => Nat.lt_of_le_of_lt (hM.len e) hlt
          split at h
          · split at h
            · exact k (Mn.bind (R _) (fun e => Mn.bind (mn_must en _) (fun _ => Mn.pure _))) h
            · split at h
              · exact k (Mn.bind (R _) (fun e => Mn.bind (R _) (fun _ => Mn.pure _))) h
              · split at h
                · exact k (Mn.bind (R _) (fun c => Mn.bind (R _) (fun b => mn_ite (mn_next (Mn.bind (R _) (fun d => Mn.pure _))) (mn_ok _)))) h
                · split at h
                  · split at h
                    · exact k (Mn.bind (mn_must en _) (fun _ => Mn.pure _)) h
                    · exact k (Mn.bind (R _) (fun e => Mn.bind (mn_must en _) (fun _ => Mn.pure _))) h
                  · split at h
                    · exact k (Mn.bind (mn_whole en) (fun d => Mn.bind (mn_name en) (fun x => Mn.bind (mn_must en _) (fun _ => Mn.bind (R _) (fun e => Mn.bind (mn_must en _) (fun _ => Mn.pure _)))))) h
                    · split at h
                      · exact k (R _) h
                      · split at h
                        · exact k (Mn.bind (R _) (fun b => Mn.bind (mn_must en _) (fun _ => Mn.bind (mn_name en) (fun c => Mn.bind (mn_name en) (fun x => Mn.bind (mn_must en _) (fun _ => Mn.bind (R _) (fun d => Mn.pure _))))))) h
                        · simp [PM.fail] at h
          · simp [PM.fail] at h
    | set p => exact Ln.bindL (L .post trivial) (fun t => Mn.bind (mn_must en _) (fun _ => Mn.bind (R _) (fun e => Mn.bind (mn_must en _) (fun _ => mn_ite (mn_ok _) (Mn.fail _ _)))))
    | expr => exact ln_down en (L _ trivial)
    | rank k =>
      rw [runP]
      split
      · exact L .un trivial
      · exact Ln.bindL (L (.rank _) trivial) (fun n => R _)
    | ranks k n => exact absurd hs id
    | un =>
      refine ln_down en (fun s a s' h => ?_)
      split at h
      · rename_i ha
        exact Nat.lt_of_le_of_lt ((Mn.bind (R _) (fun e => Mn.pure _)).len h) (ahead_lt ha)
      · split at h
        · rename_i ha
          exact Nat.lt_of_le_of_lt ((Mn.bind (R _) (fun e => Mn.pure _)).len h) (ahead_lt ha)
        · exact L .post trivial s a s' h
    | list acc =>
      intro s a s' h
      rw [runP] at h
      dsimp only at h
      split at h
      · rename_i ha; rw [← Mn.some h]; exact ahead_lt ha
      · refine Ln.bindR ?_ (fun _ => Ln.bindL (L .expr trivial) (fun e => R _)) s a s' h
        split
        · exact mn_must en _
        · exact Mn.pure _
    | post => exact Ln.bindL (L .prim trivial) (fun n => R _)
    | posts n => exact absurd hs id
    | made p =>
      intro s a s' h
      rw [runP] at h
      dsimp only at h
      split at h
      · exact Ln.bindL (ln_name en) (fun x => Mn.bind (mn_must en _) (fun _ => Mn.pure _)) s a s' h
      · exact Ln.bindL (ln_part en) (fun d => Mn.bind (mn_must en _) (fun _ => Mn.bind (R _) (fun e => Mn.bind (mn_must en _) (fun _ => Mn.pure _)))) s a s' h
    | prim =>
      intro s a s' h
      rw [runP] at h
      dsimp only at h
      split at h
      · simp [PM.fail] at h
      · rename_i x r hx
        have hne : s.ws ≠ [] := by rw [hx]; simp
        have hlt := next_lt hne
        have k : ∀ {M : PM NodeD}, Mn M → M (nextP s) = some (.ok (a, s')) → s'.ws.length < s.ws.length := fun hM e => Nat.lt_of_le_of_lt (hM.len e) hlt
        split at h
        · rw [← Mn.some h]; exact hlt
        · split at h
          · rw [← Mn.some h]; exact hlt
          · split at h
            · rw [← Mn.some h]; exact hlt
            · split at h
              · exact k (Mn.bind (R _) (fun e => Mn.bind (mn_must en _) (fun _ => Mn.pure _))) h
              · split at h
                · exact k (Mn.bind (mn_must en _) (fun _ => Mn.pure _)) h
                · split at h
                  · exact k (Mn.bind (R _) (fun e => Mn.pure _)) h
                  · split at h
                    · exact k (R _) h
                    · split at h
                      · rw [← Mn.some h]; exact hlt
                      · simp [PM.fail] at h
theorem tot_bind {α β : Type} {m : PM α} {f : α → PM β} {s : PSt} (h : m s ≠ none) (k : ∀ a s', m s = some (.ok (a, s')) → f a s' ≠ none) : PM.bind m f s ≠ none := by
  unfold PM.bind
  split
  · rename_i e; exact absurd e h
  · simp
  · rename_i a s' e; exact k a s' e
theorem tot_must (en : Int) : ∀ l s, mustP en l s ≠ none
  | [], s => by simp [mustP, PM.pure]
  | t :: r, s => by
    rw [mustP]
    dsimp only
    split
    · exact tot_must en r _
    · simp [PM.fail]
theorem tot_name (en : Int) (s : PSt) : nameP en s ≠ none := by
  unfold nameP
  split
  · split <;> simp [PM.fail]
  · simp [PM.fail]
theorem tot_brackets (en : Int) : ∀ k d s, s.ws.length < k → bracketsP en k d s ≠ none
  | 0, d, s, h => absurd h (by omega)
  | k + 1, d, s, h => by
    rw [bracketsP]
    dsimp only
    split
    · rename_i ha
      split
      · refine tot_brackets en k _ _ ?_
        have h1 : aheadP s 0 [91] = true := by simp only [Bool.and_eq_true] at ha; exact ha.1
        have := ahead_lt h1
        have := next_le (nextP s)
        omega
      · simp [PM.fail]
    · simp
theorem tot_base (en : Int) (s : PSt) : baseP en s ≠ none := by
  unfold baseP
  split
  · simp
  · split
    · simp
    · split
      · simp
      · exact tot_bind (tot_name en s) (fun _ _ _ => by simp [PM.pure])
theorem tot_part (en : Int) (s : PSt) : partP en s ≠ none := tot_bind (tot_base en s) (fun d s' _ => tot_brackets en _ d s' (by omega))
theorem tot_whole (en : Int) (s : PSt) : wholeP en s ≠ none := tot_bind (tot_part en s) (fun d s' _ => by split <;> simp [PM.fail])
theorem tot_down (en : Int) {m : PM NodeD} {s : PSt} (h : m ⟨s.ws, s.deep + 1⟩ ≠ none) : downP en m s ≠ none := by
  unfold downP
  split
  · simp [PM.fail]
  · exact tot_bind h (fun _ _ _ => by simp)
def cN : NT → Nat
  | .block => 1 | .loop _ _ => 3 | .round => 1 | .stmt => 2 | .set _ => 3 | .expr => 10 | .rank k => 9 - k | .ranks _ _ => 1 | .un => 3 | .list _ => 11 | .post => 2 | .posts _ => 1 | .made _ => 1 | .prim => 1
def okN : NT → Prop
  | .rank k => k ≤ 5
  | .ranks k _ => k ≤ 4
  | _ => True
theorem run_tot (en : Int) : ∀ m nt s, okN nt → 16 * s.ws.length + cN nt < m → runP en m nt s ≠ none
  | 0, nt, s, _, h => absurd h (by omega)
  | m + 1, nt, s, hok, h => by
    have R := run_tot en m
    have hm := mn_run en m
    have L := ln_run en m
    have hc : ∀ nt, cN nt ≤ 11 := fun nt => by cases nt <;> simp [cN] <;> omega
    have R' : ∀ nt s', okN nt → s'.ws.length < s.ws.length → runP en m nt s' ≠ none := fun nt s' ho hl => R nt s' ho (by have := hc nt; omega)
    have P : ∀ {α : Type} (a : α) (s : PSt), PM.pure a s ≠ none := fun a s => by simp [PM.pure]
    cases nt with
    | block => exact tot_down en (tot_bind (tot_must en _ _) (fun a s' e => R' _ _ trivial (ln_must en _ _ ⟨s.ws, s.deep + 1⟩ _ _ e)))
    | loop acc p =>
      rw [runP]
      dsimp only
      split
      · simp
      · exact tot_bind (R _ _ trivial (by simp only [cN] at h ⊢; omega)) (fun n s' e => R' _ _ trivial (L .stmt trivial _ _ _ e))
    | round => exact tot_bind (tot_must en _ _) (fun a s' e => tot_bind (R' _ _ trivial (ln_must en _ _ _ _ _ e)) (fun _ s2 _ => tot_bind (tot_must en _ _) (fun _ _ _ => P _ _)))
    | stmt =>
      rw [runP]
      dsimp only
      split
      · exact R _ _ trivial (by simp only [cN] at h ⊢; omega)
      · split
        · simp [PM.fail]
        · rename_i x r hx
          have hne : s.ws ≠ [] := by rw [hx]; simp
          have hlt := next_lt hne
          have A : ∀ nt, okN nt → runP en m nt (nextP s) ≠ none := fun nt ho => R' nt _ ho hlt
          have B : ∀ nt s', okN nt → s'.ws.length ≤ (nextP s).ws.length → runP en m nt s' ≠ none := fun nt s' ho hl => R' nt _ ho (by omega)
          split
          · split
            · exact tot_bind (A _ trivial) (fun _ _ _ => tot_bind (tot_must en _ _) (fun _ _ _ => P _ _))
            · split
              · exact tot_bind (A _ trivial) (fun _ s' e => tot_bind (B _ _ trivial ((hm _).len e)) (fun _ _ _ => P _ _))
              · split
                · refine tot_bind (A _ trivial) (fun _ s' e => tot_bind (B _ _ trivial ((hm _).len e)) (fun _ s2 e2 => ?_))
                  split
                  · refine tot_bind (B _ _ trivial ?_) (fun _ _ _ => P _ _)
                    have := (hm _).len e
                    have := (hm _).len e2
                    have := next_le s2
                    omega
                  · simp
                · split
                  · split
                    · exact tot_bind (tot_must en _ _) (fun _ _ _ => P _ _)
                    · exact tot_bind (A _ trivial) (fun _ _ _ => tot_bind (tot_must en _ _) (fun _ _ _ => P _ _))
                  · split
                    · refine tot_bind (tot_whole en _) (fun d s1 e1 => tot_bind (tot_name en _) (fun x s2 e2 => tot_bind (tot_must en _ _) (fun _ s3 e3 => tot_bind (B _ _ trivial ?_) (fun _ _ _ => tot_bind (tot_must en _ _) (fun _ _ _ => P _ _)))))
                      have := (mn_whole en).len e1
                      have := (mn_name en).len e2
                      have := (mn_must en _).len e3
                      omega
                    · split
                      · exact A _ trivial
                      · split
                        · refine tot_bind (A _ trivial) (fun _ s1 e1 => tot_bind (tot_must en _ _) (fun _ s2 e2 => tot_bind (tot_name en _) (fun _ s3 e3 => tot_bind (tot_name en _) (fun _ s4 e4 => tot_bind (tot_must en _ _) (fun _ s5 e5 => tot_bind (B _ _ trivial ?_) (fun _ _ _ => P _ _))))))
                          have := (hm _).len e1
                          have := (mn_must en _).len e2
                          have := (mn_name en).len e3
                          have := (mn_name en).len e4
                          have := (mn_must en _).len e5
                          omega
                        · simp [PM.fail]
          · simp [PM.fail]
    | set p =>
      refine tot_bind (R _ _ trivial (by simp only [cN] at h ⊢; omega)) (fun t s1 e1 => tot_bind (tot_must en _ _) (fun _ s2 e2 => tot_bind (R' _ _ trivial ?_) (fun _ _ _ => tot_bind (tot_must en _ _) (fun _ _ _ => by split <;> simp [PM.fail]))))
      · have := L .post trivial _ _ _ e1
        have := (mn_must en _).len e2
        omega
    | expr => exact tot_down en (R (.rank 0) ⟨s.ws, s.deep + 1⟩ (Nat.zero_le _) (by simp only [cN] at h ⊢; omega))
    | rank k =>
      have hk : k ≤ 5 := hok
      rw [runP]
      split
      · exact R _ _ trivial (by simp only [cN] at h ⊢; omega)
      · exact tot_bind (R (.rank (k + 1)) s (show k + 1 ≤ 5 by omega) (by simp only [cN] at h ⊢; omega)) (fun n s1 e => R' (.ranks k n) _ (show k ≤ 4 by omega) (L (.rank (k + 1)) trivial _ _ _ e))
    | ranks k n =>
      have hk : k ≤ 4 := hok
      rw [runP]
      dsimp only
      split
      · simp
      · rename_i t ht
        have ha : aheadP s 0 t = true := List.find?_some ht
        have hlt := ahead_lt ha
        refine tot_bind (R' (.rank (k + 1)) _ (show k + 1 ≤ 5 by omega) hlt) (fun e s1 e1 => ?_)
        have := (hm _).len e1
        split
        · exact P _ _
        · exact R' (.ranks k _) _ (show k ≤ 4 from hk) (by omega)
    | un =>
      refine tot_down en ?_
      split
      · rename_i ha
        exact tot_bind (R' _ _ trivial (ahead_lt ha)) (fun _ _ _ => P _ _)
      · split
        · rename_i ha
          exact tot_bind (R' _ _ trivial (ahead_lt ha)) (fun _ _ _ => P _ _)
        · exact R .post ⟨s.ws, s.deep + 1⟩ trivial (by simp only [cN] at h ⊢; omega)
    | list acc =>
      rw [runP]
      dsimp only
      split
      · simp
      · refine tot_bind ?_ (fun _ s1 e1 => ?_)
        · split
          · exact tot_must en _ _
          · exact P _ _
        · have hl1 : s1.ws.length ≤ s.ws.length := by
            split at e1
            · exact (mn_must en _).len e1
            · exact (Mn.pure ()).len e1
          refine tot_bind (R .expr s1 trivial (by simp only [cN] at h ⊢; omega)) (fun _ s2 e2 => R' _ _ trivial ?_)
          have := L .expr trivial _ _ _ e2
          omega
    | post => exact tot_bind (R .prim s trivial (by simp only [cN] at h ⊢; omega)) (fun n s1 e => R' (.posts n) _ trivial (L .prim trivial _ _ _ e))
    | posts n =>
      rw [runP]
      dsimp only
      split
      · rename_i ha
        have hlt := ahead_lt ha
        refine tot_bind (tot_name en _) (fun x s1 e1 => ?_)
        have h1 := (mn_name en).len e1
        split
        · have h2 := next_le s1
          refine tot_bind (R' _ _ trivial (by omega)) (fun l s2 e2 => R' _ _ trivial ?_)
          have := (hm _).len e2
          omega
        · exact R' _ _ trivial (by omega)
      · split
        · rename_i ha
          have hlt := ahead_lt ha
          refine tot_bind (R' _ _ trivial hlt) (fun e s1 e1 => tot_bind (tot_must en _ _) (fun _ s2 e2 => R' _ _ trivial ?_))
          have := (hm _).len e1
          have := (mn_must en _).len e2
          omega
        · split
          · rename_i ha
            have hlt := ahead_lt ha
            refine tot_bind (tot_part en _) (fun d s1 e1 => R' _ _ trivial ?_)
            have := (mn_part en).len e1
            omega
          · split
            · rename_i ha
              have hlt := ahead_lt ha
              refine tot_bind (tot_part en _) (fun d s1 e1 => R' _ _ trivial ?_)
              have := (mn_part en).len e1
              omega
            · simp
    | made p =>
      rw [runP]
      dsimp only
      split
      · exact tot_bind (tot_name en _) (fun _ _ _ => tot_bind (tot_must en _ _) (fun _ _ _ => P _ _))
      · refine tot_bind (tot_part en _) (fun d s1 e1 => tot_bind (tot_must en _ _) (fun _ s2 e2 => tot_bind (R' _ _ trivial ?_) (fun _ _ _ => tot_bind (tot_must en _ _) (fun _ _ _ => P _ _))))
        have := ln_part en _ _ _ e1
        have := (mn_must en _).len e2
        omega
    | prim =>
      rw [runP]
      dsimp only
      split
      · simp [PM.fail]
      · rename_i x r hx
        have hne : s.ws ≠ [] := by rw [hx]; simp
        have hlt := next_lt hne
        split
        · simp
        · split
          · simp
          · split
            · simp
            · split
              · exact tot_bind (R' _ _ trivial hlt) (fun _ _ _ => tot_bind (tot_must en _ _) (fun _ _ _ => P _ _))
              · split
                · exact tot_bind (tot_must en _ _) (fun _ _ _ => P _ _)
                · split
                  · exact tot_bind (R' _ _ trivial hlt) (fun _ _ _ => P _ _)
                  · split
                    · exact R' _ _ trivial hlt
                    · split
                      · simp
                      · simp [PM.fail]
end Go.Proofs.YtcaigcmbgihhkaaGreatDoor
namespace Go.Proofs.YtcaigcmbgihhkaaGreatDoor
open Go Go.RowKit Go.Shelf
set_option linter.unusedVariables false
set_option linter.unusedSimpArgs false
attribute [local go_sem] Oper.semAt_some
def WordsAt (n : Nat) (W : World) (v : Value) (ws : List WordD) : Prop :=
  ∃ ao c, v = .slice ao ws.length c ∧ ws.length ≤ c ∧ c ≤ maxLen ∧ (ws ≠ [] → ∃ g o, ao = some ⟨g, o, none⟩ ∧ g < n ∧ ∀ j x i u, ws[j]? = some x → (wcells x)[i]? = some u → W.cell? ⟨g, o + j * 4 + i, none⟩ = some u)
theorem WordsAt.below {n m : Nat} {W W' : World} {v : Value} {ws : List WordD} (h : WordsAt n W v ws) (hn : n ≤ m) (hb : Below m W W') : WordsAt n W' v ws := by
  obtain ⟨ao, c, h1, h2, h3, h4⟩ := h
  refine ⟨ao, c, h1, h2, h3, fun hne => ?_⟩
  obtain ⟨g, o, e, hg, hc⟩ := h4 hne
  exact ⟨g, o, e, hg, fun j x i u hx hu => (hb.cell (p := ⟨g, o + j * 4 + i, none⟩) (Nat.lt_of_lt_of_le hg hn)).trans (hc j x i u hx hu)⟩
def POk (s : PSt) : Prop := s.ws.length ≤ 1000000 ∧ (∀ x ∈ s.ws, x.text.length ≤ 1000000) ∧ 0 ≤ s.deep ∧ s.deep ≤ 24
theorem POk.tail {x : WordD} {r : List WordD} {d : Int} (h : POk ⟨x :: r, d⟩) : POk ⟨r, d⟩ := by
  obtain ⟨h1, h2, h3⟩ := h
  exact ⟨by simp only [List.length_cons] at h1; show r.length ≤ _; omega, fun y hy => h2 y (List.mem_cons_of_mem _ hy), h3⟩
def PAt (W : World) (pB : Nat) (en : Int) (s : PSt) : Prop := (∃ v, Blk W pB 88 #[v, .int .i64 en, .int .i64 s.deep] ∧ WordsAt pB W v s.ws) ∧ POk s
theorem PAt.lt {W : World} {pB : Nat} {en : Int} {s : PSt} (h : PAt W pB en s) : pB < W.heap.size := by
  obtain ⟨⟨v, h1, _⟩, _⟩ := h
  exact h1.lt
theorem PAt.below {W W' : World} {pB : Nat} {en : Int} {s : PSt} (h : PAt W pB en s) (hb : Below W.heap.size W W') : PAt W' pB en s := by
  have hlt := h.lt
  obtain ⟨⟨v, h1, h2⟩, h3⟩ := h
  exact ⟨⟨v, h1.below hb hlt, h2.below (by omega) hb⟩, h3⟩
abbrev Tch (pB : Nat) (w w' : World) : Prop := Touch (fun k => k = pB) w w'
theorem Tch.trans {pB : Nat} {a b c : World} (h : Tch pB a b) (k : Tch pB b c) : Tch pB a c := Touch.trans h k (fun i hi => .inl hi)
theorem Tch.below {pB : Nat} {a b : World} (h : Below a.heap.size a b) : Tch pB a b := Touch.of_below h
set_option maxRecDepth 100000 in
theorem place0_any (w : World) (pB : Nat) (en : Int) (s : PSt) (h : ∃ v, Blk w pB 88 #[v, .int .i64 en, .int .i64 s.deep] ∧ WordsAt pB w v s.ws) : Calls Tryz.prog 100 #[.pointer (some ⟨pB, 0, none⟩)] w fun e w' => e = .returned (.int .i64 (placeP en s)) ∧ w = w' := by
  obtain ⟨v, hb, ao, c, rfl, h1, h2, h3⟩ := h
  have c0 : w.cell? ⟨pB, 0, none⟩ = some (.slice ao s.ws.length c) := hb.cell 0
  have c1 : w.cell? ⟨pB, 1, none⟩ = some (.int .i64 en) := hb.cell 1
  obtain ⟨ws, dp⟩ := s
  cases ws with
  | nil =>
    clear hb h3
    dsimp only at c0 h1
    go_enter Tryz.func100, Tryz.ntmps100
    go_wp2
    go_ret
    exact ⟨rfl, rfl⟩
  | cons x r =>
    obtain ⟨g, o, rfl, hg, hc⟩ := h3 (by simp)
    have cA := hc 0 x 3 _ rfl rfl
    rw [Nat.zero_mul, Nat.add_zero] at cA
    dsimp only at c0 h1
    have hm : r.length + 1 ≤ 9223372036854775807 := by unfold maxLen at h2; simp at h1; omega
    have hz : (((r.length + 1 : Nat) : Int) == 0) = false := beq_eq_false_iff_ne.2 (by omega)
    rw [List.length_cons] at c0
    obtain ⟨n, hn⟩ : ∃ n, n = r.length + 1 := ⟨_, rfl⟩
    rw [← hn] at c0 hm hz
    have hn0 : 0 < n := by omega
    have hn0' : (0 : Int) < (n : Int) := by omega
    clear hb h3 hc hn
    go_enter Tryz.func100, Tryz.ntmps100
    go_wp2
    go_ret
    exact ⟨rfl, rfl⟩
theorem place_any (w : World) (pB : Nat) (en : Int) (s : PSt) (h : PAt w pB en s) : Calls Tryz.prog 100 #[.pointer (some ⟨pB, 0, none⟩)] w fun e w' => e = .returned (.int .i64 (placeP en s)) ∧ w = w' := place0_any w pB en s h.1
abbrev faultC (e : Fault) : List PanicEntry := [{ v := .iface 84 (.agg #[.int .i64 e.1, .int .i64 e.2]), recovered := false }]
set_option maxRecDepth 100000 in
theorem fail_any (w : World) (p : Value) (at_ why : Int) : Calls Tryz.prog 101 #[p, .int .i64 at_, .int .i64 why] w fun e w' => e = .panicked (faultC (at_, why)) ∧ w = w' := by
  go_enter Tryz.func101, Tryz.ntmps101
  go_wp2
  exact ⟨rfl, rfl, rfl⟩
theorem PAt.cells {w : World} {pB : Nat} {en : Int} {s : PSt} (h : PAt w pB en s) : ∃ ao n c, n = s.ws.length ∧ n ≤ c ∧ c ≤ maxLen ∧ Blk w pB 88 #[.slice ao n c, .int .i64 en, .int .i64 s.deep] ∧
    ∀ j x, s.ws[j]? = some x → ∃ g o, ao = some ⟨g, o, none⟩ ∧ g < pB ∧ ∀ i u, (wcells x)[i]? = some u → w.cell? ⟨g, o + j * 4 + i, none⟩ = some u := by
  obtain ⟨⟨v, hb, ao, c, rfl, h1, h2, h3⟩, _⟩ := h
  refine ⟨ao, s.ws.length, c, rfl, h1, h2, hb, fun j x hx => ?_⟩
  obtain ⟨g, o, e, hg, hc⟩ := h3 (by rintro e; rw [e] at hx; simp at hx)
  exact ⟨g, o, e, hg, fun i u hu => hc j x i u hx hu⟩
set_option maxRecDepth 100000 in
theorem kind_any (w : World) (pB : Nat) (en : Int) (s : PSt) (k : Int) (h : PAt w pB en s) : Calls Tryz.prog 102 #[.pointer (some ⟨pB, 0, none⟩), .int .i64 k] w fun e w' => e = .returned (.bool (kindP s k)) ∧ w = w' := by
  obtain ⟨ao, n, c, hn, h1, h2, hb, hc⟩ := h.cells
  have c0 : w.cell? ⟨pB, 0, none⟩ = some (.slice ao n c) := hb.cell 0
  unfold maxLen at h2
  obtain ⟨ws, dp⟩ := s
  cases ws with
  | nil =>
    obtain rfl : n = 0 := hn
    clear hb hc
    go_enter Tryz.func102, Tryz.ntmps102
    go_wp2
    go_ret
    exact ⟨rfl, rfl⟩
  | cons x r =>
    obtain ⟨g, o, rfl, hg, hc'⟩ := hc 0 x rfl
    have cA := hc' 0 _ rfl
    have hn0 : 0 < n := by simp at hn; omega
    have hn0' : (0 : Int) < (n : Int) := by omega
    have hnd : decide ((0 : Int) < (n : Int)) = true := decide_eq_true hn0'
    rw [Nat.zero_mul, Nat.add_zero] at cA
    have hk : kindP ⟨x :: r, dp⟩ k = (x.kind == k) := rfl
    rw [hk]
    clear hb hc hc' hn hk
    obtain ⟨kb, hkb⟩ : ∃ kb, (x.kind == k) = kb := ⟨_, rfl⟩
    rw [hkb]
    go_enter Tryz.func102, Tryz.ntmps102
    go_wp2
    go_ret
    exact ⟨rfl, rfl⟩
theorem PAt.step {w : World} {pB : Nat} {en dp : Int} {x : WordD} {r : List WordD} {g o n c : Nat} (hb : Blk w pB 88 #[.slice (some ⟨g, o, none⟩) n c, .int .i64 en, .int .i64 dp]) (hn : n = (x :: r).length) (h1 : n ≤ c) (h2 : c ≤ maxLen) (hg : g < pB) (hok : POk ⟨x :: r, dp⟩)
    (hc : ∀ j y, (x :: r)[j]? = some y → ∀ i u, (wcells y)[i]? = some u → w.cell? ⟨g, o + j * 4 + i, none⟩ = some u) {v' : Value} (hv : (c = 1 ∧ v' = .slice (some ⟨g, o, none⟩) 0 0) ∨ (v' = .slice (some ⟨g, o + 4, none⟩) (n - 1) (c - 1))) :
    PAt (w.setCell ⟨pB, 0, none⟩ v') pB en ⟨r, dp⟩ := by
  have hn1 : n = r.length + 1 := hn
  refine ⟨⟨v', by simpa using hb.set 0 v', ?_⟩, hok.tail⟩
  have hk : ∀ b, (w.setCell ⟨pB, 0, none⟩ v').cell? ⟨g, b, none⟩ = w.cell? ⟨g, b, none⟩ := fun b => World.cell?_setCell_other _ ⟨pB, 0, none⟩ ⟨g, b, none⟩ _ (by simp <;> omega)
  rcases hv with ⟨rfl, rfl⟩ | rfl
  · have : r = [] := List.eq_nil_of_length_eq_zero (by omega)
    subst this
    exact ⟨_, 0, rfl, Nat.le_refl _, Nat.zero_le _, fun h => absurd rfl h⟩
  · refine ⟨some ⟨g, o + 4, none⟩, c - 1, by rw [show n - 1 = r.length by omega], by show r.length ≤ c - 1; omega, by omega, fun hne => ⟨g, o + 4, rfl, hg, fun j y i u hy hu => ?_⟩⟩
    rw [hk]
    have := hc (j + 1) y (by simpa using hy) i u hu
    rw [show o + (j + 1) * 4 + i = o + 4 + j * 4 + i by omega] at this
    exact this
set_option maxRecDepth 100000 in
theorem next_any (w : World) (pB : Nat) (en : Int) (x : WordD) (r : List WordD) (dp : Int) (h : PAt w pB en ⟨x :: r, dp⟩) : Calls Tryz.prog 103 #[.pointer (some ⟨pB, 0, none⟩)] w fun e w' => e = .returned (wval x) ∧ PAt w' pB en ⟨r, dp⟩ ∧ Tch pB w w' := by
  have HP := Lib.hid h
  obtain ⟨ao, n, c, hn, h1, h2, hb, hc⟩ := h.cells
  have c0 : w.cell? ⟨pB, 0, none⟩ = some (.slice ao n c) := hb.cell 0
  have f0 := hb.frozen 0
  obtain ⟨g, o, rfl, hg, hc'⟩ := hc 0 x rfl
  have cA := hc' 0 _ rfl
  have cB := hc' 1 _ rfl
  have cC := hc' 2 _ rfl
  have cD := hc' 3 _ rfl
  rw [Nat.zero_mul, Nat.add_zero] at cA cB cC cD
  have hn0 : 1 ≤ n := by simp at hn; omega
  have hn0' : (1 : Int) ≤ (n : Int) := by omega
  have hm : c ≤ 9223372036854775807 := by unfold maxLen at h2; omega
  have hncI : (n : Int) ≤ (c : Int) := by omega
  have hlt := h.lt
  have HN := Lib.hid hn
  have HB := Lib.hid hb
  have hall : ∀ j y, (x :: r)[j]? = some y → ∀ i u, (wcells y)[i]? = some u → w.cell? ⟨g, o + j * 4 + i, none⟩ = some u := fun j y hy i u hu => by
    obtain ⟨g2, o2, e, _, h⟩ := hc j y hy
    cases e
    exact h i u hu
  have HALL := Lib.hid hall
  have H12 := Lib.hid (And.intro h1 h2)
  have hgw : g < w.heap.size := by omega
  have hgn : ¬ g = pB := by omega
  have HG := Lib.hid hg
  clear h hn hc hc' hb hg hall h2
  by_cases hc1 : c = 1
  · subst hc1
    go_enter Tryz.func103, Tryz.ntmps103
    go_wp2_with fail
    refine bodyPost_ret (v := wval x) (by simp [results, Tryz.results103, go_sem, wval]) rfl ⟨rfl, ?_, ?_⟩
    · exact ((PAt.step HB.out HN.out H12.out.1 H12.out.2 HG.out HP.out.2 HALL.out (.inl ⟨rfl, rfl⟩)).below ((Below.refl _ _).alloc (Nat.le_refl _) _)).below ((Below.refl _ _).alloc (Nat.le_refl _) _)
    · exact (((Touch.refl (fun k => k = pB) w).setCell (p := ⟨pB, 0, none⟩) (.inl rfl) _).alloc _).alloc _
  · have hcI : ¬ ((c : Int) = 1) := by omega
    go_enter Tryz.func103, Tryz.ntmps103
    go_wp2_with fail
    refine bodyPost_ret (v := wval x) (by simp [results, Tryz.results103, go_sem, wval]) rfl ⟨rfl, ?_, ?_⟩
    · exact ((PAt.step HB.out HN.out H12.out.1 H12.out.2 HG.out HP.out.2 HALL.out (.inr rfl)).below ((Below.refl _ _).alloc (Nat.le_refl _) _)).below ((Below.refl _ _).alloc (Nat.le_refl _) _)
    · exact (((Touch.refl (fun k => k = pB) w).setCell (p := ⟨pB, 0, none⟩) (.inl rfl) _).alloc _).alloc _
set_option maxRecDepth 100000 in
set_option maxHeartbeats 1000000 in
theorem ahead_any (w : World) (pB : Nat) (en : Int) (s : PSt) (k : Nat) (hk : k ≤ 10) (tb : ByteArray) (h : PAt w pB en s) : Calls Tryz.prog 104 #[.pointer (some ⟨pB, 0, none⟩), .int .i64 (k : Int), .string tb] w fun e w' => e = .returned (.bool (aheadP s k (bl tb))) ∧ w = w' := by
  obtain ⟨ao, n, c, hn, h1, h2, hb, hc⟩ := h.cells
  have c0 : w.cell? ⟨pB, 0, none⟩ = some (.slice ao n c) := hb.cell 0
  unfold maxLen at h2
  unfold aheadP
  by_cases hkn : k < n
  · obtain ⟨x, hx⟩ : ∃ x, s.ws[k]? = some x := ⟨_, List.getElem?_eq_getElem (by omega)⟩
    rw [hx]
    dsimp only
    obtain ⟨g, o, rfl, hg, hc'⟩ := hc k x hx
    have cA := hc' 0 _ rfl
    have cB := hc' 1 _ rfl
    rw [Nat.add_zero] at cA
    have hd : decide ((k : Int) < (n : Int)) = true := decide_eq_true (by omega)
    have hkI : (k : Int) < (n : Int) := by omega
    obtain ⟨tq, htq⟩ : ∃ q, ((mkB x.text).toList == tb.toList) = q := ⟨_, rfl⟩
    have htq2 : (x.text == bl tb) = tq := by rw [← htq, toList_bl, toList_bl, bl_mkB]
    rw [htq2]
    obtain ⟨b5, hb5⟩ : ∃ q, (x.kind == 5) = q := ⟨_, rfl⟩
    obtain ⟨b4, hb4⟩ : ∃ q, (x.kind == 4) = q := ⟨_, rfl⟩
    rw [hb5, hb4]
    clear hb hc hc' hn hx htq2 h
    cases tq with
    | false =>
      go_enter Tryz.func104, Tryz.ntmps104
      go_wp2
      go_ret
      exact ⟨rfl, rfl⟩
    | true =>
      cases b5 with
      | true =>
        go_enter Tryz.func104, Tryz.ntmps104
        go_wp2
        go_ret
        exact ⟨rfl, rfl⟩
      | false =>
        go_enter Tryz.func104, Tryz.ntmps104
        go_wp2
        go_ret
        exact ⟨rfl, rfl⟩
  · have hx : s.ws[k]? = none := List.getElem?_eq_none (by omega)
    rw [hx]
    dsimp only
    have hd : decide ((k : Int) < (n : Int)) = false := decide_eq_false (by omega)
    have hkI : ¬ (k : Int) < (n : Int) := by omega
    clear hb hc hn hx h
    go_enter Tryz.func104, Tryz.ntmps104
    go_wp2
    go_ret
    exact ⟨rfl, rfl⟩
theorem ahead_cons {s : PSt} {t : Bs} (h : aheadP s 0 t = true) : ∃ x r, s = ⟨x :: r, s.deep⟩ := by
  obtain ⟨ws, dp⟩ := s
  cases ws with
  | nil => simp [aheadP] at h
  | cons x r => exact ⟨x, r, rfl⟩
set_option maxRecDepth 100000 in
theorem may_any (w : World) (pB : Nat) (en : Int) (s : PSt) (tb : ByteArray) (h : PAt w pB en s) : Calls Tryz.prog 70 #[.pointer (some ⟨pB, 0, none⟩), .string tb] w fun e w' => e = .returned (.bool (aheadP s 0 (bl tb))) ∧ PAt w' pB en (mayP s (bl tb)) ∧ Tch pB w w' := by
  have h0 := ahead_any w pB en s 0 (by omega) tb h
  have H := Lib.hid h
  unfold mayP
  cases hq : aheadP s 0 (bl tb) with
  | false =>
    rw [hq] at h0
    have H0 := Lib.hid h0
    clear h0 hq h
    go_enter Tryz.func70, Tryz.ntmps70
    go_wp2_with fail
    refine H0.out.mono ?_
    rintro e w' ⟨rfl, rfl⟩
    go_wp2_with fail
    go_ret
    exact ⟨rfl, H.out, Touch.refl _ _⟩
  | true =>
    obtain ⟨x, r, hs⟩ := ahead_cons hq
    rw [hq] at h0
    have h1 := next_any w pB en x r s.deep (by rw [← hs]; exact h)
    have hs2 : nextP s = ⟨r, s.deep⟩ := by rw [hs]; rfl
    have H0 := Lib.hid h0
    have H1 := Lib.hid h1
    have HS2 := Lib.hid hs2
    clear h0 hq h hs h1 hs2
    go_enter Tryz.func70, Tryz.ntmps70
    go_wp2_with fail
    refine H0.out.mono ?_
    rintro e w' ⟨rfl, rfl⟩
    go_wp2_with fail
    refine H1.out.mono ?_
    rintro e w' ⟨rfl, hp, ht⟩
    have HP := Lib.hid hp
    have HT := Lib.hid ht
    clear hp ht
    go_wp2_with fail
    go_ret
    exact ⟨rfl, by rw [HS2.out]; exact HP.out, HT.out⟩
end Go.Proofs.YtcaigcmbgihhkaaGreatDoor
namespace Go.Proofs.YtcaigcmbgihhkaaGreatDoor
open Go Go.RowKit Go.Shelf
set_option linter.unusedVariables false
set_option linter.unusedSimpArgs false
attribute [local go_sem] Oper.semAt_some
def PEnd {α : Type} (pB : Nat) (en : Int) (w : World) (Q : α → Ending → World → Prop) (r : Except Fault (α × PSt)) (e : Ending) (w' : World) : Prop :=
  match r with
  | .error f => e = .panicked (faultC f) ∧ Tch pB w w'
  | .ok (a, s') => Q a e w' ∧ PAt w' pB en s' ∧ Tch pB w w'
set_option maxRecDepth 100000 in
set_option maxHeartbeats 1000000 in
theorem name_any (w : World) (pB : Nat) (en : Int) (s : PSt) (r : Except Fault ((Bs × Int) × PSt)) (h : PAt w pB en s) (hr : nameP en s = some r) :
    Calls Tryz.prog 69 #[.pointer (some ⟨pB, 0, none⟩)] w (PEnd pB en w (fun a e _ => e = .returned (.tuple #[.string (mkB a.1), .int .i64 a.2])) r) := by
  have hk := kind_any w pB en s 1 h
  have H := Lib.hid h
  have hpl := place_any w pB en s h
  have HPL := Lib.hid hpl
  by_cases hq : kindP s 1 = true
  · obtain ⟨x, t, hs, hx⟩ : ∃ x t, s = ⟨x :: t, s.deep⟩ ∧ x.kind = 1 := by
      obtain ⟨ws, dp⟩ := s
      cases ws with
      | nil => simp [kindP] at hq
      | cons x t => exact ⟨x, t, rfl, by simpa [kindP] using hq⟩
    have hr2 : r = .ok ((x.text, x.at_), ⟨t, s.deep⟩) := by
      rw [hs, nameP] at hr
      simp only [hx, if_true] at hr
      cases hr
      rfl
    subst hr2
    have hnx := next_any w pB en x t s.deep (by rw [← hs]; exact h)
    rw [hq] at hk
    have HK := Lib.hid hk
    have HNX := Lib.hid hnx
    clear hk hnx hq hs hx hr h hpl
    go_enter Tryz.func69, Tryz.ntmps69
    go_wp2_with fail
    refine HK.out.mono ?_
    rintro e w' ⟨rfl, rfl⟩
    go_wp2_with fail
    refine HNX.out.mono ?_
    rintro e w1 ⟨rfl, hp, ht⟩
    have HP := Lib.hid hp
    have HT := Lib.hid ht
    clear hp ht
    dsimp only [wval]
    go_wp2_with fail
    go_quiet (fail)
    go_wp2
    go_ret2
    have hb1 : Below w1.heap.size w1 (w1.alloc (.cells #[.int .i64 x.kind, .string (mkB x.text), .int .i64 x.n, .int .i64 x.at_] 36)) := (Below.refl _ _).alloc (Nat.le_refl _) _
    exact ⟨rfl, (HP.out.below (pw_below_drewN hb1 _)), (HT.out.step hb1).drewN _⟩
  · have hq' : kindP s 1 = false := by simpa using hq
    have hr2 : r = .error (placeP en s, 18) := by
      obtain ⟨ws, dp⟩ := s
      cases ws with
      | nil => simp [nameP, PM.fail] at hr; exact hr.symm
      | cons x t =>
        rw [nameP] at hr
        simp only at hr
        rw [if_neg (by simpa [kindP] using hq)] at hr
        simp [PM.fail] at hr
        exact hr.symm
    subst hr2
    rw [hq'] at hk
    have HK := Lib.hid hk
    clear hk hq hq' hr h hpl
    go_enter Tryz.func69, Tryz.ntmps69
    go_wp2_with fail
    refine HK.out.mono ?_
    rintro e w' ⟨rfl, rfl⟩
    go_wp2_with fail
    refine HPL.out.mono ?_
    rintro e w' ⟨rfl, rfl⟩
    go_wp2_with fail
    refine (fail_any _ _ _ _).mono ?_
    rintro e w' ⟨rfl, rfl⟩
    go_wp2_with fail
    exact ⟨rfl, rfl, Touch.refl _ _⟩
def TextsAt (W : World) (pB : Nat) (A : Option Addr) (l : List Bs) : Prop := l ≠ [] → ∃ q, A = some ⟨q, 0, none⟩ ∧ q ≠ pB ∧ q < W.heap.size ∧ ∀ j t, l[j]? = some t → W.cell? ⟨q, j, none⟩ = some (.string (mkB t))
theorem Tch.cell {pB : Nat} {w w' : World} (h : Tch pB w w') {q : Nat} (hq : q < w.heap.size) (hne : q ≠ pB) (j : Nat) : w'.cell? ⟨q, j, none⟩ = w.cell? ⟨q, j, none⟩ := World.cell?_of_block (a := ⟨q, j, none⟩) (h.block q hq hne)
set_option maxRecDepth 100000 in
set_option maxHeartbeats 2000000 in
theorem must_any (w : World) (pB : Nat) (en : Int) (s : PSt) (r : Except Fault (Unit × PSt)) (A : Option Addr) (c n : Nat) (l : List Bs) (hn : n = l.length) (hl : n ≤ 10) (h : PAt w pB en s) (ht : TextsAt w pB A l) (hr : mustP en l s = some r) :
    Calls Tryz.prog 68 #[.pointer (some ⟨pB, 0, none⟩), .slice A n c] w (PEnd pB en w (fun _ e _ => e = .returned (.int .i64 (placeP en s))) r) := by
  have hpl := place_any w pB en s h
  have H := Lib.hid h
  have HPL := Lib.hid hpl
  have HT := Lib.hid ht
  have HR := Lib.hid hr
  have HN := Lib.hid hn
  obtain ⟨p0, hp0⟩ : ∃ p0, p0 = placeP en s := ⟨_, rfl⟩
  rw [← hp0] at HPL ⊢
  clear h hpl ht hr hn hp0
  go_enter Tryz.func68, Tryz.ntmps68
  go_wp2_with fail
  refine HPL.out.mono ?_
  rintro e w' ⟨rfl, rfl⟩
  go_wp2_with fail
  go_loopw [12] (fun s12 wr => ∃ (k : Nat) (s' : PSt), k ≤ n ∧ s12 = .int .i64 (k : Int) ∧ Hid (mustP en (l.drop k) s' = some r) ∧ Hid (PAt wr pB en s') ∧ Hid (Tch pB w wr)) (fun s12 _ => n - (intOf s12).toNat)
  case atStart => exact ⟨0, s, Nat.zero_le _, rfl, HR, H, Lib.hid (Touch.refl _ _)⟩
  case round =>
    obtain ⟨k, s', hk, rfl, hm, hp, htc⟩ := hrel
    by_cases hkn : k < n
    · obtain ⟨t, hlt⟩ : ∃ t, l[k]? = some t := ⟨_, List.getElem?_eq_getElem (by rw [← HN.out]; exact hkn)⟩
      obtain ⟨q, rfl, hq1, hq2, hq3⟩ := HT.out (by rintro e; rw [e] at hlt; simp at hlt)
      have cq : wr.cell? ⟨q, k, none⟩ = some (.string (mkB t)) := (htc.out.cell hq2 hq1 k).trans (hq3 k t hlt)
      have hd : l.drop k = t :: l.drop (k + 1) := by
        have hkl := (List.getElem?_eq_some_iff.1 hlt).1
        rw [List.drop_eq_getElem_cons hkl]
        congr 1
        exact (List.getElem?_eq_some_iff.1 hlt).2
      have hm' := hm.out
      rw [hd, mustP] at hm'
      dsimp only at hm'
      have hmay := may_any wr pB en s' (mkB t) hp.out
      rw [bl_mkB] at hmay
      by_cases ha : aheadP s' 0 t = true
      · rw [if_pos ha] at hm'
        rw [ha] at hmay
        have hmp : mayP s' t = nextP s' := by rw [mayP, if_pos ha]
        rw [hmp] at hmay
        have HM := Lib.hid hm'
        have HMAY := Lib.hid hmay
        clear hm' hmay ha hmp hd hlt hq3
        go_wp2_with fail
        refine HMAY.out.mono ?_
        rintro e w1 ⟨rfl, hp1, ht1⟩
        have HP1 := Lib.hid hp1
        have HT1 := Lib.hid (htc.out.trans ht1)
        clear hp1 ht1
        go_wp2_with fail
        go_roundw
        case rel => exact ⟨k + 1, nextP s', by omega, by go_num, HM, HP1, HT1⟩
        case measure => simp [intOf]; omega
      · have ha' : aheadP s' 0 t = false := by simpa using ha
        rw [if_neg ha] at hm'
        have hre : r = .error (placeP en s', 18) := by simp [PM.fail] at hm'; exact hm'.symm
        subst hre
        rw [ha'] at hmay
        have hmp : mayP s' t = s' := by rw [mayP, if_neg ha]
        rw [hmp] at hmay
        have HMAY := Lib.hid hmay
        clear hm' hmay ha ha' hmp hd hlt hq3
        go_wp2_with fail
        refine HMAY.out.mono ?_
        rintro e w1 ⟨rfl, hp1, ht1⟩
        have hpl2 := Lib.hid (place_any w1 pB en s' hp1)
        have HT1 := Lib.hid (htc.out.trans ht1)
        clear hp1 ht1
        go_wp2_with fail
        refine hpl2.out.mono ?_
        rintro e w' ⟨rfl, rfl⟩
        go_wp2_with fail
        refine (fail_any _ _ _ _).mono ?_
        rintro e w' ⟨rfl, rfl⟩
        go_wp2_with fail
        exact ⟨rfl, rfl, HT1.out⟩
    · obtain rfl : k = n := by omega
      have hm' := hm.out
      rw [List.drop_eq_nil_of_le (by rw [← HN.out]; exact Nat.le_refl _), mustP] at hm'
      have hre : r = .ok ((), s') := by simp [PM.pure] at hm'; exact hm'.symm
      subst hre
      clear hm'
      go_wp2_with fail
      go_ret
      exact ⟨rfl, hp.out, htc.out⟩
theorem PAt.alloc {W : World} {pB : Nat} {en : Int} {s : PSt} (h : PAt W pB en s) (o : Obj) : PAt (W.alloc o) pB en s := h.below ((Below.refl _ _).alloc (Nat.le_refl _) _)
theorem PAt.drewN {W : World} {pB : Nat} {en : Int} {s : PSt} (h : PAt W pB en s) (n : Nat) : PAt (W.drewN n) pB en s := h.below (pw_below_drewN (Below.refl _ _) _)
theorem PAt.drew {W : World} {pB : Nat} {en : Int} {s : PSt} (h : PAt W pB en s) : PAt W.drew pB en s := h.below (pw_below_drewN (Below.refl _ _) 1)
theorem PAt.block {W W' : World} {pB : Nat} {en : Int} {s : PSt} (h : PAt W pB en s) (hb : ∀ k, k ≤ pB → W'.heap[k]? = W.heap[k]?) : PAt W' pB en s := by
  obtain ⟨⟨v, h1, ao, c, e, h3, h4, h5⟩, h2⟩ := h
  refine ⟨⟨v, (hb pB (Nat.le_refl _)).trans h1, ao, c, e, h3, h4, fun hne => ?_⟩, h2⟩
  obtain ⟨g, o, e, hg, hc⟩ := h5 hne
  exact ⟨g, o, e, hg, fun j x i u hx hu => (World.cell?_of_block (a := ⟨g, o + j * 4 + i, none⟩) (hb g (Nat.le_of_lt hg))).trans (hc j x i u hx hu)⟩
theorem PAt.setCell {W : World} {pB : Nat} {en : Int} {s : PSt} (h : PAt W pB en s) {q : Nat} (hq : pB < q) (i : Nat) (u : Value) : PAt (W.setCell ⟨q, i, none⟩ u) pB en s :=
  h.block (fun k hk => Below.heap_setCell W ⟨q, i, none⟩ u k (by simp; omega))
theorem PAt.setCells {W : World} {pB : Nat} {en : Int} {s : PSt} (h : PAt W pB en s) {q : Nat} (hq : pB < q) (i : Nat) (us : List Value) : PAt (W.setCells q i us) pB en s :=
  h.block (fun k hk => heap_setCells q i us W k (by omega))
theorem Tch.setCell {pB : Nat} {a w : World} (h : Tch pB a w) {q : Nat} (hq : a.heap.size ≤ q) (hl : q < w.heap.size) (i : Nat) (u : Value) : Tch pB a (w.setCell ⟨q, i, none⟩ u) := Touch.setCell (p := ⟨q, i, none⟩) h (.inr ⟨hq, hl⟩) u
theorem Tch.setCells {pB : Nat} {a w : World} (h : Tch pB a w) {q : Nat} (hq : a.heap.size ≤ q) (i : Nat) (us : List Value) : Tch pB a (w.setCells q i us) :=
  ⟨(grownBy_setCells w q i us).os.trans h.os, (grownBy_setCells w q i us).tape.trans h.tape, (grownBy_setCells w q i us).output.trans h.output, by rw [size_setCells]; exact h.size, fun k hk hS => (heap_setCells q i us w k (by omega)).trans (h.block k hk hS)⟩
theorem Tch.lt {pB : Nat} {a w : World} (h : Tch pB a w) {q : Nat} (hq : q < a.heap.size) : q < w.heap.size := Nat.lt_of_lt_of_le hq h.size
theorem Blk.tch {pB : Nat} {W W' : World} {B : Nat} {t : TypeId} {cs : Array Value} (h : Blk W B t cs) (hb : Tch pB W W') (hB : B ≠ pB) : Blk W' B t cs := h.touch hb hB
theorem must1 (w : World) (T : TypeId) (pB : Nat) (en : Int) (s : PSt) (r : Except Fault (Unit × PSt)) (q : Nat) (hq : q = w.heap.size) (b : ByteArray) (t : Bs) (hb : bl b = t) (h : PAt w pB en s) (hr : mustP en [t] s = some r) :
    Calls Tryz.prog 68 #[.pointer (some ⟨pB, 0, none⟩), .slice (some ⟨q, 0, none⟩) 1 1] (w.alloc (.cells #[.string b] T)) (PEnd pB en w (fun _ e _ => e = .returned (.int .i64 (placeP en s))) r) := by
  subst hb hq
  have hx := must_any (w.alloc (.cells #[.string b] T)) pB en s r (some ⟨w.heap.size, 0, none⟩) 1 1 [bl b] rfl (by omega) (h.alloc _) (fun _ => ⟨w.heap.size, rfl, by have := h.lt; omega, by simp, fun j t ht => by
    have hj : j = 0 := by have := (List.getElem?_eq_some_iff.1 ht).1; simpa using this
    subst hj
    simp at ht
    subst ht
    rw [mkB_bl]
    exact (Blk.new w T #[.string b]).cell 0⟩) hr
  refine hx.mono ?_
  rintro e w' hE
  unfold PEnd at hE ⊢
  cases r with
  | error f => exact ⟨hE.1, (Tch.below ((Below.refl _ _).alloc (Nat.le_refl _) _)).trans hE.2⟩
  | ok x => exact ⟨hE.1, hE.2.1, (Tch.below ((Below.refl _ _).alloc (Nat.le_refl _) _)).trans hE.2.2⟩
theorem must2 (w : World) (T : TypeId) (pB : Nat) (en : Int) (s : PSt) (r : Except Fault (Unit × PSt)) (q : Nat) (hq : q = w.heap.size) (b1 b2 : ByteArray) (t1 t2 : Bs) (hb1 : bl b1 = t1) (hb2 : bl b2 = t2) (h : PAt w pB en s) (hr : mustP en [t1, t2] s = some r) :
    Calls Tryz.prog 68 #[.pointer (some ⟨pB, 0, none⟩), .slice (some ⟨q, 0, none⟩) 2 2] (w.alloc (.cells #[.string b1, .string b2] T)) (PEnd pB en w (fun _ e _ => e = .returned (.int .i64 (placeP en s))) r) := by
  subst hb1 hb2 hq
  have hx := must_any (w.alloc (.cells #[.string b1, .string b2] T)) pB en s r (some ⟨w.heap.size, 0, none⟩) 2 2 [bl b1, bl b2] rfl (by omega) (h.alloc _) (fun _ => ⟨w.heap.size, rfl, by have := h.lt; omega, by simp, fun j t ht => by
    have hj : j < 2 := by have := (List.getElem?_eq_some_iff.1 ht).1; simpa using this
    have hj2 : j = 0 ∨ j = 1 := by omega
    rcases hj2 with rfl | rfl
    · simp at ht
      subst ht
      rw [mkB_bl]
      exact (Blk.new w T #[.string b1, .string b2]).cell 0
    · simp at ht
      subst ht
      rw [mkB_bl]
      exact (Blk.new w T #[.string b1, .string b2]).cell 1⟩) hr
  refine hx.mono ?_
  rintro e w' hE
  unfold PEnd at hE ⊢
  cases r with
  | error f => exact ⟨hE.1, (Tch.below ((Below.refl _ _).alloc (Nat.le_refl _) _)).trans hE.2⟩
  | ok x => exact ⟨hE.1, hE.2.1, (Tch.below ((Below.refl _ _).alloc (Nat.le_refl _) _)).trans hE.2.2⟩
end Go.Proofs.YtcaigcmbgihhkaaGreatDoor
namespace Go.Proofs.YtcaigcmbgihhkaaGreatDoor
open Go Go.RowKit Go.Shelf
set_option linter.unusedVariables false
set_option linter.unusedSimpArgs false
attribute [local go_sem] Oper.semAt_some
theorem bareL_len (d : Bs) : (bareL d).length ≤ d.length := by
  exact (List.dropWhile_suffix (fun x => x == (91 : UInt8))).length_le
theorem of_any (w : World) (s : ByteArray) (hs : s.size ≤ 1099511627776) : Calls Tryz.prog 170 #[.string s] w fun e w' => e = .returned (.string (mkB (76 :: bl s ++ [59]))) ∧ w = w' := by
  go_enter Tryz.func170, Tryz.ntmps170
  go_wp2
  go_ret
  refine ⟨?_, rfl⟩
  refine congrArg (fun x => Ending.returned (Value.string x)) (bl_inj ?_)
  rw [bl_append, bl_append, bl_mkB]
  simp [bl]
theorem trim1 (w : World) (s : ByteArray) : Calls Tryz.prog 91 #[.string s, .string ⟨#[91]⟩] w fun e w' => e = .returned (.string (mkB (bareL (bl s)))) ∧ w = w' :=
  (Any.strings_TrimLeft_one Tryz.lays161 s 91 (by decide) w).mono fun e w' ⟨h1, h2⟩ => ⟨h1, h2.symm⟩
theorem bare_any (w : World) (s : ByteArray) (hs : s.size ≤ 1099511627776) : Calls Tryz.prog 78 #[.string s] w fun e w' => e = .returned (.tuple #[.string (mkB (bareL (bl s))), .int .i64 ((s.size - (bareL (bl s)).length : Nat) : Int)]) ∧ w = w' := by
  have hle := bareL_len (bl s)
  rw [bl_len] at hle
  have hz := mkB_size (bareL (bl s))
  have ht := trim1 w s
  obtain ⟨X, hX⟩ : ∃ X, X = bareL (bl s) := ⟨_, rfl⟩
  rw [← hX] at hle hz ht ⊢
  have HT := Lib.hid ht
  have HZ := Lib.hid hz
  have hxl : (mkB X).size ≤ 1099511627776 := by omega
  clear hX hz ht
  go_enter Tryz.func78, Tryz.ntmps78
  go_wp2_with fail
  refine HT.out.mono ?_
  rintro e w' ⟨rfl, rfl⟩
  go_wp2
  go_ret2
  refine ⟨?_, rfl⟩
  have e : ((s.size : Int) - ((mkB X).size : Int)) = ((s.size - X.length : Nat) : Int) := by rw [HZ.out]; omega
  show Ending.returned (.tuple #[.string (mkB X), .int .i64 ((s.size : Int) - ((mkB X).size : Int))]) = _
  rw [e]
theorem plain2_any (w : World) (s : ByteArray) : Calls Tryz.prog 114 #[.string s] w fun e w' => e = .returned (.bool (plainT (bl s))) ∧ w = w' := by
  have h1 : (s.toList == [73]) = (bl s == [73]) := by rw [toList_bl]
  have h2 : (s.toList == [66]) = (bl s == [66]) := by rw [toList_bl]
  have h3 : (s.toList == [83]) = (bl s == [83]) := by rw [toList_bl]
  unfold plainT
  obtain ⟨x1, e1⟩ : ∃ x, (bl s == [73]) = x := ⟨_, rfl⟩
  obtain ⟨x2, e2⟩ : ∃ x, (bl s == [66]) = x := ⟨_, rfl⟩
  obtain ⟨x3, e3⟩ : ∃ x, (bl s == [83]) = x := ⟨_, rfl⟩
  rw [e1] at h1 ⊢
  rw [e2] at h2 ⊢
  rw [e3] at h3 ⊢
  clear e1 e2 e3
  cases x1
  · cases x2
    · go_enter Tryz.func114, Tryz.ntmps114
      go_wp2
      go_ret
      exact ⟨rfl, rfl⟩
    · go_enter Tryz.func114, Tryz.ntmps114
      go_wp2
      go_ret
      exact ⟨rfl, rfl⟩
  · go_enter Tryz.func114, Tryz.ntmps114
    go_wp2
    go_ret
    exact ⟨rfl, rfl⟩
theorem bname_any (w : World) (s : ByteArray) (hs : s.size ≤ 140737488351232) : Calls Tryz.prog 117 #[.string s] w fun e w' => e = .returned (.bool (nameL (bl s))) ∧ ∃ n, w' = w.drewN n := by
  obtain ⟨k, hk⟩ := bname_tells s hs
  exact (PName.bin_Name.calls k s _ w (hk k (Nat.le_refl _))).mono fun e w' ⟨h1, h2⟩ => ⟨h1, h2.out⟩
theorem cutP (w : World) (s : ByteArray) (c : UInt8) : Calls Tryz.prog 115 #[.string s, .string ⟨#[c]⟩] w fun e w' => e = .returned (.tuple #[.string (mkB (Lib.trimPrefix (bl s) [c])), .bool (Lib.hasPrefix (bl s) [c])]) ∧ w = w' :=
  (Tryz.strings_CutPrefix s ⟨#[c]⟩ w).mono fun e w' ⟨h1, h2⟩ => ⟨h1, h2.symm⟩
theorem cutS (w : World) (s : ByteArray) (c : UInt8) (hs : s.size ≤ 9223372036854775807) : Calls Tryz.prog 116 #[.string s, .string ⟨#[c]⟩] w fun e w' => e = .returned (.tuple #[.string (mkB (Lib.trimSuffix (bl s) [c])), .bool (Lib.hasSuffix (bl s) [c])]) ∧ w = w' :=
  (Tryz.strings_CutSuffix s ⟨#[c]⟩ w hs).mono fun e w' ⟨h1, h2⟩ => ⟨h1, h2.symm⟩
theorem trimP_len (l p : Bs) : (Lib.trimPrefix l p).length ≤ l.length := by
  unfold Lib.trimPrefix
  split <;> simp
theorem trimS_len (l p : Bs) : (Lib.trimSuffix l p).length ≤ l.length := by
  unfold Lib.trimSuffix
  split <;> simp
set_option maxRecDepth 100000 in
theorem dname_any (w : World) (s : ByteArray) (hs : s.size ≤ 1099511627776) : Calls Tryz.prog 80 #[.string s] w fun e w' => e = .returned (.tuple #[.string (mkB (classS (bl s))), .bool (classL (bl s))]) ∧ ∃ n, w' = w.drewN n := by
  have h1 := cutP w s 76
  have l1 := trimP_len (bl s) [76]
  rw [bl_len] at l1
  have h2 := cutS w (mkB (Lib.trimPrefix (bl s) [76])) 59 (by rw [mkB_size]; omega)
  rw [bl_mkB] at h2
  have l2 := trimS_len (Lib.trimPrefix (bl s) [76]) [59]
  have h3 := bname_any w (mkB (classS (bl s))) (by rw [mkB_size]; unfold classS; omega)
  rw [bl_mkB] at h3
  unfold classL
  have hcs : Lib.trimSuffix (Lib.trimPrefix (bl s) [76]) [59] = classS (bl s) := rfl
  rw [hcs] at h2
  generalize classS (bl s) = X at h2 h3 ⊢
  generalize Lib.trimPrefix (bl s) [76] = Y at h1 h2 ⊢
  generalize Lib.hasPrefix (bl s) [76] = b1 at h1 ⊢
  generalize Lib.hasSuffix Y [59] = b2 at h2 ⊢
  generalize nameL X = b3 at h3 ⊢
  have H1 := Lib.hid h1
  have H2 := Lib.hid h2
  have H3 := Lib.hid h3
  clear h1 h2 h3 l1 l2 hcs
  cases b1
  · go_enter Tryz.func80, Tryz.ntmps80
    go_wp2_with fail
    refine H1.out.mono ?_
    rintro e w' ⟨rfl, rfl⟩
    go_wp2_with fail
    refine H2.out.mono ?_
    rintro e w' ⟨rfl, rfl⟩
    go_wp2_with fail
    go_ret2
    exact ⟨rfl, 0, rfl⟩
  · cases b2
    · go_enter Tryz.func80, Tryz.ntmps80
      go_wp2_with fail
      refine H1.out.mono ?_
      rintro e w' ⟨rfl, rfl⟩
      go_wp2_with fail
      refine H2.out.mono ?_
      rintro e w' ⟨rfl, rfl⟩
      go_wp2_with fail
      go_ret2
      exact ⟨rfl, 0, rfl⟩
    · go_enter Tryz.func80, Tryz.ntmps80
      go_wp2_with fail
      refine H1.out.mono ?_
      rintro e w' ⟨rfl, rfl⟩
      go_wp2_with fail
      refine H2.out.mono ?_
      rintro e w' ⟨rfl, rfl⟩
      go_wp2_with fail
      refine H3.out.mono ?_
      rintro e w' ⟨rfl, n, rfl⟩
      go_wp2_with fail
      go_ret2
      exact ⟨rfl, n, rfl⟩
set_option maxRecDepth 100000 in
theorem right_any (w : World) (s : ByteArray) (hs : s.size ≤ 1099511627776) : Calls Tryz.prog 79 #[.string s] w fun e w' => e = .returned (.bool (rightL (bl s))) ∧ ∃ n, w' = w.drewN n := by
  have hle := bareL_len (bl s)
  rw [bl_len] at hle
  have h1 := bare_any w s hs
  have h2 := dname_any w (mkB (bareL (bl s))) (by rw [mkB_size]; omega)
  rw [bl_mkB] at h2
  have h3 := fun w => plain2_any w (mkB (bareL (bl s)))
  rw [bl_mkB] at h3
  unfold rightL
  rw [bl_len]
  generalize classS (bareL (bl s)) = X at h2
  generalize classL (bareL (bl s)) = b1 at h2 ⊢
  generalize plainT (bareL (bl s)) = b2 at h3 ⊢
  obtain ⟨k, hk⟩ : ∃ k, k = s.size - (bareL (bl s)).length := ⟨_, rfl⟩
  rw [← hk] at h1 ⊢
  generalize bareL (bl s) = Y at h1 h2 h3 hle
  have H1 := Lib.hid h1
  have H2 := Lib.hid h2
  have H3 := Lib.hid h3
  have hk2 : k ≤ 1099511627776 := by omega
  clear h1 h2 h3 hk hle
  by_cases h4 : k ≤ 4
  · have hd : decide ((k : Int) ≤ 4) = true := decide_eq_true (by omega)
    have hd2 : decide (k ≤ 4) = true := decide_eq_true h4
    have h4I : (k : Int) ≤ 4 := by omega
    rw [hd2]
    clear hd2
    cases b1
    · go_enter Tryz.func79, Tryz.ntmps79
      go_wp2_with fail
      refine H1.out.mono ?_
      rintro e w' ⟨rfl, rfl⟩
      go_wp2_with fail
      refine H2.out.mono ?_
      rintro e w' ⟨rfl, n, rfl⟩
      go_wp2_with fail
      refine (H3.out _).mono ?_
      rintro e w' ⟨rfl, rfl⟩
      go_wp2_with fail
      go_ret
      exact ⟨rfl, n, rfl⟩
    · go_enter Tryz.func79, Tryz.ntmps79
      go_wp2_with fail
      refine H1.out.mono ?_
      rintro e w' ⟨rfl, rfl⟩
      go_wp2_with fail
      refine H2.out.mono ?_
      rintro e w' ⟨rfl, n, rfl⟩
      go_wp2_with fail
      go_ret
      exact ⟨rfl, n, rfl⟩
  · have hd : decide ((k : Int) ≤ 4) = false := decide_eq_false (by omega)
    have hd2 : decide (k ≤ 4) = false := decide_eq_false h4
    have h4I : ¬ (k : Int) ≤ 4 := by omega
    rw [hd2]
    clear hd2
    go_enter Tryz.func79, Tryz.ntmps79
    go_wp2_with fail
    refine H1.out.mono ?_
    rintro e w' ⟨rfl, rfl⟩
    go_wp2_with fail
    refine H2.out.mono ?_
    rintro e w' ⟨rfl, n, rfl⟩
    go_wp2_with fail
    go_ret
    exact ⟨rfl, n, rfl⟩
def arrR (d : Bs) : Value × Int := if rightL d then (if d.length - (bareL d).length = 4 then (.string (mkB []), 27) else (.string (mkB (91 :: d)), 0)) else (.string (mkB []), 10)
theorem arrL_iff (d : Bs) : (arrL d = true → (arrR d) = (.string (mkB (91 :: d)), 0)) ∧ (arrL d = false → (arrR d).2 ≠ 0) := by
  unfold arrL arrR
  cases rightL d
  · simp
  · by_cases h : d.length - (bareL d).length = 4
    · simp [h]
    · simp [h]
set_option maxRecDepth 100000 in
theorem array_any (w : World) (s : ByteArray) (hs : s.size ≤ 1099511627776) : Calls Tryz.prog 171 #[.string s] w fun e w' => e = .returned (.tuple #[(arrR (bl s)).1, .int .i64 (arrR (bl s)).2]) ∧ ∃ n, w' = w.drewN n := by
  have hle := bareL_len (bl s)
  rw [bl_len] at hle
  have h1 := bare_any w s hs
  have h2 := right_any w s hs
  unfold arrR
  rw [bl_len]
  generalize rightL (bl s) = b1 at h2 ⊢
  obtain ⟨k, hk⟩ : ∃ k, k = s.size - (bareL (bl s)).length := ⟨_, rfl⟩
  rw [← hk] at h1 ⊢
  generalize bareL (bl s) = Y at h1 hle hk
  have H1 := Lib.hid h1
  have H2 := Lib.hid h2
  have hk2 : k ≤ 1099511627776 := by omega
  clear h1 h2 hk hle
  cases b1
  · go_enter Tryz.func171, Tryz.ntmps171
    go_wp2_with fail
    refine H1.out.mono ?_
    rintro e w' ⟨rfl, rfl⟩
    go_wp2_with fail
    refine H2.out.mono ?_
    rintro e w' ⟨rfl, n, rfl⟩
    go_wp2_with fail
    go_ret2
    exact ⟨rfl, n, rfl⟩
  · by_cases h4 : k = 4
    · have hd : ((k : Int) == 4) = true := beq_iff_eq.2 (by omega)
      rw [if_pos rfl, if_pos h4]
      clear h4
      go_enter Tryz.func171, Tryz.ntmps171
      go_wp2_with fail
      refine H1.out.mono ?_
      rintro e w' ⟨rfl, rfl⟩
      go_wp2_with fail
      refine H2.out.mono ?_
      rintro e w' ⟨rfl, n, rfl⟩
      go_wp2_with fail
      go_ret2
      exact ⟨rfl, n, rfl⟩
    · have hd : ((k : Int) == 4) = false := beq_eq_false_iff_ne.2 (by omega)
      rw [if_pos rfl, if_neg h4]
      clear h4
      go_enter Tryz.func171, Tryz.ntmps171
      go_wp2_with fail
      refine H1.out.mono ?_
      rintro e w' ⟨rfl, rfl⟩
      go_wp2_with fail
      refine H2.out.mono ?_
      rintro e w' ⟨rfl, n, rfl⟩
      go_wp2_with fail
      go_ret2
      refine ⟨?_, n, rfl⟩
      refine congrArg (fun x => Ending.returned (Value.tuple #[.string x, .int .i64 0])) (bl_inj ?_)
      rw [bl_append, bl_mkB]
      simp [bl]
end Go.Proofs.YtcaigcmbgihhkaaGreatDoor
namespace Go.Proofs.YtcaigcmbgihhkaaGreatDoor
open Go Go.RowKit Go.Shelf
set_option linter.unusedVariables false
set_option linter.unusedSimpArgs false
attribute [local go_sem] Oper.semAt_some
theorem may_yes (w : World) (pB : Nat) (en : Int) (s : PSt) (tb : ByteArray) (t : Bs) (ht : bl tb = t) (h : PAt w pB en s) (ha : aheadP s 0 t = true) : Calls Tryz.prog 70 #[.pointer (some ⟨pB, 0, none⟩), .string tb] w fun e w' => e = .returned (.bool true) ∧ Hid (PAt w' pB en (nextP s)) ∧ Hid (Tch pB w w') := by
  have h1 := may_any w pB en s tb h
  rw [ht, ha, mayP, if_pos ha] at h1
  exact h1.mono fun e w' ⟨a, b, c⟩ => ⟨a, Lib.hid b, Lib.hid c⟩
set_option maxRecDepth 100000 in
theorem may_no (w : World) (pB : Nat) (en : Int) (s : PSt) (tb : ByteArray) (t : Bs) (ht : bl tb = t) (h : PAt w pB en s) (ha : aheadP s 0 t = false) : Calls Tryz.prog 70 #[.pointer (some ⟨pB, 0, none⟩), .string tb] w fun e w' => e = .returned (.bool false) ∧ w = w' := by
  have h0 := ahead_any w pB en s 0 (by omega) tb h
  rw [ht, ha] at h0
  have H0 := Lib.hid h0
  clear h0 ha ht h
  go_enter Tryz.func70, Tryz.ntmps70
  go_wp2_with fail
  refine H0.out.mono ?_
  rintro e w' ⟨rfl, rfl⟩
  go_wp2_with fail
  go_ret
  exact ⟨rfl, rfl⟩
theorem nameP_len {en : Int} {s s' : PSt} {a : Bs × Int} (h : nameP en s = some (.ok (a, s'))) (hk : POk s) : a.1.length ≤ 1000000 := by
  obtain ⟨ws, dp⟩ := s
  cases ws with
  | nil => simp [nameP, PM.fail] at h
  | cons x r =>
    rw [nameP] at h
    dsimp only at h
    split at h
    · simp only [Option.some.injEq, Except.ok.injEq, Prod.mk.injEq] at h
      rw [← h.1]
      exact hk.2.1 x (List.mem_cons_self ..)
    · simp [PM.fail] at h
set_option maxRecDepth 100000 in
set_option maxHeartbeats 2000000 in
theorem part_any (w : World) (pB : Nat) (en : Int) (s : PSt) (r : Except Fault (Bs × PSt)) (h : PAt w pB en s) (hr : partP en s = some r) :
    Calls Tryz.prog 137 #[.pointer (some ⟨pB, 0, none⟩)] w (PEnd pB en w (fun a e _ => e = .returned (.string (mkB a)) ∧ a.length ≤ 2000010) r) := by
  have H := Lib.hid h
  have HR := Lib.hid hr
  clear h hr
  go_enter Tryz.func137, Tryz.ntmps137
  go_upto_block 0 with fail
  go_cut [3] (fun s3 w' => ∃ (d : Bs) (s' : PSt), s3 = .string (mkB d) ∧ Hid (bracketsP en (s'.ws.length + 1) d s' = some r) ∧ Hid (PAt w' pB en s') ∧ Hid (Tch pB w w') ∧ Hid (d.length ≤ 1000002))
  case first =>
    have hr' := HR.out
    unfold partP baseP at hr'
    unfold PM.bind at hr'
    dsimp only at hr'
    cases hI : aheadP s 0 [105, 110, 116] with
    | true =>
      rw [if_pos hI] at hr'
      dsimp only at hr'
      have HR' := Lib.hid hr'
      have HI := Lib.hid (may_yes w pB en s ⟨#[105, 110, 116]⟩ _ rfl H.out hI)
      clear hr' hI
      go_wp2_with fail
      refine HI.out.mono ?_
      rintro e w1 ⟨rfl, hp, ht⟩
      go_wp2_with fail
      go_meet
      exact ⟨_, _, rfl, HR', hp, ht, Lib.hid (by decide)⟩
    | false =>
      rw [if_neg (by rw [hI]; decide)] at hr'
      have HI := Lib.hid (may_no w pB en s ⟨#[105, 110, 116]⟩ _ rfl H.out hI)
      clear hI
      cases hB : aheadP s 0 [98, 111, 111, 108] with
      | true =>
        rw [if_pos hB] at hr'
        dsimp only at hr'
        have HR' := Lib.hid hr'
        have HB := Lib.hid (may_yes w pB en s ⟨#[98, 111, 111, 108]⟩ _ rfl H.out hB)
        clear hr' hB
        go_wp2_with fail
        refine HI.out.mono ?_
        rintro e w1 ⟨rfl, rfl⟩
        go_wp2_with fail
        refine HB.out.mono ?_
        rintro e w1 ⟨rfl, hp, ht⟩
        go_wp2_with fail
        go_meet
        exact ⟨_, _, rfl, HR', hp, ht, Lib.hid (by decide)⟩
      | false =>
        rw [if_neg (by rw [hB]; decide)] at hr'
        have HB := Lib.hid (may_no w pB en s ⟨#[98, 111, 111, 108]⟩ _ rfl H.out hB)
        clear hB
        cases hS : aheadP s 0 [115, 116, 114] with
        | true =>
          rw [if_pos hS] at hr'
          dsimp only at hr'
          have HR' := Lib.hid hr'
          have HS := Lib.hid (may_yes w pB en s ⟨#[115, 116, 114]⟩ _ rfl H.out hS)
          clear hr' hS
          go_wp2_with fail
          refine HI.out.mono ?_
          rintro e w1 ⟨rfl, rfl⟩
          go_wp2_with fail
          refine HB.out.mono ?_
          rintro e w1 ⟨rfl, rfl⟩
          go_wp2_with fail
          refine HS.out.mono ?_
          rintro e w1 ⟨rfl, hp, ht⟩
          go_wp2_with fail
          go_meet
          exact ⟨_, _, rfl, HR', hp, ht, Lib.hid (by decide)⟩
        | false =>
          rw [if_neg (by rw [hS]; decide)] at hr'
          have HS := Lib.hid (may_no w pB en s ⟨#[115, 116, 114]⟩ _ rfl H.out hS)
          clear hS
          obtain ⟨r1, hr1⟩ : ∃ r1, nameP en s = some r1 := by
            cases hn : nameP en s with
            | none => rw [hn] at hr'; simp at hr'
            | some r1 => exact ⟨r1, rfl⟩
          have HN := Lib.hid (name_any w pB en s r1 H.out hr1)
          rw [hr1] at hr'
          cases r1 with
          | error f =>
            dsimp only at hr'
            obtain rfl : r = .error f := by simpa using hr'.symm
            clear hr' hr1
            go_wp2_with fail
            refine HI.out.mono ?_
            rintro e w1 ⟨rfl, rfl⟩
            go_wp2_with fail
            refine HB.out.mono ?_
            rintro e w1 ⟨rfl, rfl⟩
            go_wp2_with fail
            refine HS.out.mono ?_
            rintro e w1 ⟨rfl, rfl⟩
            go_wp2_with fail
            refine HN.out.mono ?_
            rintro e w1 ⟨rfl, ht⟩
            go_wp2_with fail
            exact ⟨rfl, rfl, ht⟩
          | ok x =>
            obtain ⟨⟨a, pl⟩, s1⟩ := x
            have hln := nameP_len hr1 H.out.2
            dsimp only at hln hr'
            have HR' := Lib.hid hr'
            have HLN := Lib.hid hln
            have hz : (mkB a).size ≤ 1099511627776 := by rw [mkB_size]; omega
            clear hr' hr1 hln
            go_wp2_with fail
            refine HI.out.mono ?_
            rintro e w1 ⟨rfl, rfl⟩
            go_wp2_with fail
            refine HB.out.mono ?_
            rintro e w1 ⟨rfl, rfl⟩
            go_wp2_with fail
            refine HS.out.mono ?_
            rintro e w1 ⟨rfl, rfl⟩
            go_wp2_with fail
            refine HN.out.mono ?_
            rintro e w1 ⟨rfl, hp, ht⟩
            have HP := Lib.hid hp
            have HT := Lib.hid ht
            clear hp ht
            go_wp2_with fail
            refine (of_any _ _ hz).mono ?_
            rintro e w' ⟨rfl, rfl⟩
            go_wp2_with fail
            go_meet
            exact ⟨_, _, rfl, HR', HP, HT, Lib.hid (by rw [bl_mkB]; have := HLN.out; simp; omega)⟩
  case rest =>
    obtain ⟨d0, s0, rfl, hr0, hp0, ht0, hl0⟩ := hcut
    have hwl : s0.ws.length ≤ 1000000 := hp0.out.2.1
    have hl0' : d0.length + s0.ws.length ≤ 2000002 := by have := hl0.out; omega
    clear hl0
    go_wp2_with fail
    go_loopg [3] (s0.ws.length + 1) (fun k s3 wr => ∃ (d : Bs) (s' : PSt), s3 = .string (mkB d) ∧ Hid (bracketsP en k d s' = some r) ∧ Hid (PAt wr pB en s') ∧ Hid (Tch pB w wr) ∧ d.length + s'.ws.length ≤ 2000002)
    case atStart => exact ⟨d0, s0, rfl, hr0, hp0, ht0, hl0'⟩
    case round =>
      obtain ⟨d, s', rfl, hk, hp, ht, hl⟩ := hrel
      cases gk with
      | zero => exact absurd hk.out (by simp [bracketsP])
      | succ k =>
        have hk' := hk.out
        rw [bracketsP] at hk'
        dsimp only at hk'
        have a0 := ahead_any wr pB en s' 0 (by omega) ⟨#[91]⟩ hp.out
        have a1 := ahead_any wr pB en s' 1 (by omega) ⟨#[93]⟩ hp.out
        change Calls _ _ _ _ (fun e w' => e = .returned (.bool (aheadP s' 0 [91])) ∧ _) at a0
        change Calls _ _ _ _ (fun e w' => e = .returned (.bool (aheadP s' 1 [93])) ∧ _) at a1
        have A0 := Lib.hid a0
        have A1 := Lib.hid a1
        clear a0 a1 hk
        cases h0 : aheadP s' 0 [91] with
        | false =>
          rw [h0] at A0 hk'
          simp only [Bool.false_and, Bool.false_eq_true, if_false] at hk'
          obtain rfl : r = .ok (d, s') := by simpa using hk'.symm
          clear hk' h0 A1
          go_wp2_with fail
          refine A0.out.mono ?_
          rintro e w' ⟨rfl, rfl⟩
          go_wp2_with fail
          go_ret
          exact ⟨⟨rfl, by omega⟩, hp.out, ht.out⟩
        | true =>
          rw [h0] at A0 hk'
          cases h1 : aheadP s' 1 [93] with
          | false =>
            rw [h1] at A1 hk'
            simp only [Bool.and_false, Bool.false_eq_true, if_false] at hk'
            obtain rfl : r = .ok (d, s') := by simpa using hk'.symm
            clear hk' h0 h1
            go_wp2_with fail
            refine A0.out.mono ?_
            rintro e w' ⟨rfl, rfl⟩
            go_wp2_with fail
            refine A1.out.mono ?_
            rintro e w' ⟨rfl, rfl⟩
            go_wp2_with fail
            go_ret
            exact ⟨⟨rfl, by omega⟩, hp.out, ht.out⟩
          | true =>
            rw [h1] at A1 hk'
            simp only [Bool.and_self, if_true] at hk'
            have har := array_any wr (mkB d) (by rw [mkB_size]; omega)
            rw [bl_mkB] at har
            have hai := arrL_iff d
            obtain ⟨x0, t0, hs0⟩ : ∃ x t, s' = ⟨x :: t, s'.deep⟩ := ahead_cons h0
            obtain ⟨x1, t1, hs1⟩ : ∃ x t, t0 = x :: t := by
              rw [hs0] at h1
              cases t0 with
              | nil => simp [aheadP] at h1
              | cons x t => exact ⟨x, t, rfl⟩
            have hmu : mustP en [[91], [93]] s' = some (.ok ((), nextP (nextP s'))) := by
              have h1' : aheadP (nextP s') 0 [93] = true := by
                rw [hs0, hs1] at h1 ⊢
                exact h1
              simp only [mustP, h0, h1', if_true, PM.pure]
            cases hA : arrL d with
            | false =>
              rw [hA] at hk'
              simp only [Bool.false_eq_true, if_false, PM.fail] at hk'
              obtain rfl : r = .error (placeP en s', 10) := by simpa using hk'.symm
              have hne := hai.2 hA
              obtain ⟨v0, y, hy⟩ : ∃ v y, arrR d = (v, y) := ⟨_, _, rfl⟩
              rw [hy] at har hne
              dsimp only at har hne
              have hyb : (y == 0) = false := beq_eq_false_iff_ne.2 hne
              have hyn : (y != 0) = true := by rw [bne, hyb]; rfl
              have HA := Lib.hid har
              have HPL := fun n => Lib.hid (place_any (wr.drewN n) pB en s' (hp.out.below (pw_below_drewN (Below.refl _ _) _)))
              clear hk' h0 h1 hs0 hs1 hmu hA hai har hy
              go_wp2_with fail
              refine A0.out.mono ?_
              rintro e w' ⟨rfl, rfl⟩
              go_wp2_with fail
              refine A1.out.mono ?_
              rintro e w' ⟨rfl, rfl⟩
              go_wp2_with fail
              refine HA.out.mono ?_
              rintro e w' ⟨rfl, n, rfl⟩
              go_wp2_with fail
              refine (HPL _).out.mono ?_
              rintro e w' ⟨rfl, rfl⟩
              go_wp2_with fail
              refine (fail_any _ _ _ _).mono ?_
              rintro e w' ⟨rfl, rfl⟩
              go_wp2_with fail
              exact ⟨rfl, rfl, ht.out.drewN _⟩
            | true =>
              rw [hA] at hk'
              simp only [if_true] at hk'
              have he := hai.1 hA
              rw [he] at har
              have HA := Lib.hid har
              have hle : (91 :: d).length + (nextP (nextP s')).ws.length ≤ 2000002 := by
                rw [hs0, hs1] at hl ⊢
                simp [nextP] at hl ⊢
                omega
              have HK := Lib.hid hk'
              have HM := Lib.hid hmu
              clear hk' h0 h1 hs0 hs1 hmu hA hai har he
              go_wp2_with fail
              refine A0.out.mono ?_
              rintro e w' ⟨rfl, rfl⟩
              go_wp2_with fail
              refine A1.out.mono ?_
              rintro e w' ⟨rfl, rfl⟩
              go_wp2_with fail
              refine HA.out.mono ?_
              rintro e w' ⟨rfl, n, rfl⟩
              go_wp2_with fail
              refine (must2 _ _ pB en s' _ _ rfl _ _ _ _ rfl rfl (hp.out.drewN n) HM.out).mono ?_
              rintro e w2 ⟨rfl, hp2, ht2⟩
              have HP2 := Lib.hid hp2
              have HT2 := Lib.hid (Tch.trans (ht.out.drewN n) ht2)
              clear hp2 ht2
              go_wp2_with fail
              go_roundg k
              case measure => omega
              case rel => exact ⟨_, _, rfl, HK, HP2, HT2, hle⟩
end Go.Proofs.YtcaigcmbgihhkaaGreatDoor
namespace Go.Proofs.YtcaigcmbgihhkaaGreatDoor
open Go Go.RowKit Go.Shelf
set_option linter.unusedVariables false
set_option linter.unusedSimpArgs false
attribute [local go_sem] Oper.semAt_some
def ncells (n : NodeD) (v : Value) : List Value := [.int .i64 n.op, .string (mkB n.text), .string (mkB n.type), .int .i64 n.n, v, .int .i64 n.at_]
inductive KidsAt (ok : Nat → Prop) (W : World) : List NodeD → Value → Prop where
  | mk (ks : List NodeD) (ao : Option Addr) (c : Nat) (h1 : ks.length ≤ c) (h2 : c ≤ maxLen) (g o : Nat) (ha : ks ≠ [] → ao = some ⟨g, o, none⟩ ∧ ok g) (kv : Nat → Value)
      (hk : ∀ j k, ks[j]? = some k → KidsAt ok W k.kids (kv j))
      (hc : ∀ j k i u, ks[j]? = some k → (ncells k (kv j))[i]? = some u → W.cell? ⟨g, o + j * 6 + i, none⟩ = some u) : KidsAt ok W ks (.slice ao ks.length c)
theorem KidsAt.nil (ok : Nat → Prop) (W : World) : KidsAt ok W [] (.slice none 0 0) := .mk [] none 0 (Nat.le_refl _) (Nat.zero_le _) 0 0 (fun h => absurd rfl h) (fun _ => .slice none 0 0) (fun j k h => by simp at h) (fun j k i u h => by simp at h)
theorem cell_lt {W : World} {g o : Nat} {u : Value} (h : W.cell? ⟨g, o, none⟩ = some u) : g < W.heap.size := by
  by_cases hg : g < W.heap.size
  · exact hg
  · have : W.heap[g]? = none := Array.getElem?_eq_none (by omega)
    simp [World.cell?, this] at h
theorem KidsAt.keep {ok ok' : Nat → Prop} {W W' : World} {ks : List NodeD} {v : Value} (h : KidsAt ok W ks v) (hok : ∀ k, ok k → k < W.heap.size → ok' k) (hw : ∀ k, ok k → k < W.heap.size → W'.heap[k]? = W.heap[k]?) : KidsAt ok' W' ks v := by
  induction h with
  | mk ks ao c h1 h2 g o ha kv hk hc ih =>
    have hg : ks ≠ [] → g < W.heap.size := fun hne => by
      cases ks with
      | nil => exact absurd rfl hne
      | cons k t => exact cell_lt (hc 0 k 0 _ rfl rfl)
    refine .mk ks ao c h1 h2 g o (fun hne => ⟨(ha hne).1, hok g (ha hne).2 (hg hne)⟩) kv ih (fun j k i u hj hu => ?_)
    have hne : ks ≠ [] := by rintro e; rw [e] at hj; simp at hj
    rw [World.cell?_of_block (a := ⟨g, o + j * 6 + i, none⟩) (hw g (ha hne).2 (hg hne))]
    exact hc j k i u hj hu
theorem KidsAt.mono {ok ok' : Nat → Prop} {W : World} {ks : List NodeD} {v : Value} (h : KidsAt ok W ks v) (hok : ∀ k, ok k → k < W.heap.size → ok' k) : KidsAt ok' W ks v := h.keep hok (fun _ _ _ => rfl)
theorem KidsAt.tch {ok : Nat → Prop} {pB : Nat} {W W' : World} {ks : List NodeD} {v : Value} (h : KidsAt ok W ks v) (ht : Tch pB W W') (hp : ¬ ok pB) : KidsAt ok W' ks v := h.keep (fun _ h _ => h) (fun k hk hl => ht.block k hl (fun e => hp (e ▸ hk)))
theorem KidsAt.alloc {ok : Nat → Prop} {W : World} {ks : List NodeD} {v : Value} (h : KidsAt ok W ks v) (o : Obj) : KidsAt ok (W.alloc o) ks v := h.keep (fun _ h _ => h) (fun k hk hl => Below.heap_alloc W o k hl)
theorem KidsAt.drewN {ok : Nat → Prop} {W : World} {ks : List NodeD} {v : Value} (h : KidsAt ok W ks v) (n : Nat) : KidsAt ok (W.drewN n) ks v := h.keep (fun _ h _ => h) (fun k hk hl => rfl)
theorem KidsAt.drew {ok : Nat → Prop} {W : World} {ks : List NodeD} {v : Value} (h : KidsAt ok W ks v) : KidsAt ok W.drew ks v := h.keep (fun _ h _ => h) (fun k hk hl => rfl)
theorem KidsAt.setCell {ok : Nat → Prop} {W : World} {ks : List NodeD} {v : Value} (h : KidsAt ok W ks v) {q : Nat} (hq : ¬ ok q) (i : Nat) (u : Value) : KidsAt ok (W.setCell ⟨q, i, none⟩ u) ks v :=
  h.keep (fun _ h _ => h) (fun k hk hl => Below.heap_setCell W ⟨q, i, none⟩ u k (fun e => hq (by subst e; exact hk)))
theorem KidsAt.setCells {ok : Nat → Prop} {W : World} {ks : List NodeD} {v : Value} (h : KidsAt ok W ks v) {q : Nat} (hq : ¬ ok q) (i : Nat) (us : List Value) : KidsAt ok (W.setCells q i us) ks v :=
  h.keep (fun _ h _ => h) (fun k hk hl => heap_setCells q i us W k (fun e => hq (e ▸ hk)))
theorem KidsAt.form {ok : Nat → Prop} {W : World} {ks : List NodeD} {v : Value} (h : KidsAt ok W ks v) : ∃ ao c, v = .slice ao ks.length c := by
  cases h; exact ⟨_, _, rfl⟩
theorem KidsAt.row {ok : Nat → Prop} {W : World} (ps : List (NodeD × Value)) (q c n : Nat) (hn : ps.length = n) (hq : ps ≠ [] → ok q) (h1 : n ≤ c) (h2 : c ≤ maxLen) (hk : ∀ p ∈ ps, KidsAt ok W p.1.kids p.2) (hc : ∀ i u, (ps.flatMap fun p => ncells p.1 p.2)[i]? = some u → W.cell? ⟨q, i, none⟩ = some u) :
    KidsAt ok W (ps.map Prod.fst) (.slice (some ⟨q, 0, none⟩) n c) := by
  have hl : (ps.map Prod.fst).length = n := by rw [List.length_map, hn]
  rw [← hl]
  refine .mk _ _ c (by omega) h2 q 0 (fun hne => ⟨rfl, hq (by rintro e; rw [e] at hne; exact hne rfl)⟩) (fun j => match ps[j]? with | some p => p.2 | none => .slice none 0 0) (fun j k hj => ?_) (fun j k i u hj hu => ?_)
  · rw [List.getElem?_map, Option.map_eq_some_iff] at hj
    obtain ⟨p, hp, rfl⟩ := hj
    rw [hp]
    exact hk p (List.mem_of_getElem? hp)
  · rw [List.getElem?_map, Option.map_eq_some_iff] at hj
    obtain ⟨p, hp, rfl⟩ := hj
    rw [hp] at hu
    rw [Nat.zero_add]
    refine hc _ u ?_
    rw [flatMap_get (fun p : NodeD × Value => ncells p.1 p.2) 6 (fun p => rfl) ps j i p hp (by have := (List.getElem?_eq_some_iff.1 hu).1; simpa [ncells] using this)]
    exact hu
theorem Blk.six {W : World} {q : Nat} {T : TypeId} {a b c d e f : Value} (h : Blk W q T #[a, b, c, d, e, f]) :
    W.cell? ⟨q, 0, none⟩ = some a ∧ W.cell? ⟨q, 1, none⟩ = some b ∧ W.cell? ⟨q, 2, none⟩ = some c ∧ W.cell? ⟨q, 3, none⟩ = some d ∧ W.cell? ⟨q, 4, none⟩ = some e ∧ W.cell? ⟨q, 5, none⟩ = some f ∧ (∀ i, W.frozen? ⟨q, i, none⟩ = false) ∧ q < W.heap.size :=
  ⟨h.cell 0, h.cell 1, h.cell 2, h.cell 3, h.cell 4, h.cell 5, h.frozen, h.lt⟩
abbrev zeroN : Array Value := #[.int .i64 0, .string ⟨#[]⟩, .string ⟨#[]⟩, .int .i64 0, .slice none 0 0, .int .i64 0]
end Go.Proofs.YtcaigcmbgihhkaaGreatDoor
namespace Go.Proofs.YtcaigcmbgihhkaaGreatDoor
open Go Go.RowKit Go.Shelf
set_option linter.unusedVariables false
set_option linter.unusedSimpArgs false
attribute [local go_sem] Oper.semAt_some
set_option maxRecDepth 100000 in
set_option maxHeartbeats 2000000 in
theorem whole_any (w : World) (pB : Nat) (en : Int) (s : PSt) (r : Except Fault (Bs × PSt)) (h : PAt w pB en s) (hr : wholeP en s = some r) :
    Calls Tryz.prog 105 #[.pointer (some ⟨pB, 0, none⟩)] w (PEnd pB en w (fun a e _ => e = .returned (.string (mkB a)) ∧ a.length ≤ 2000010) r) := by
  rcases PM.bind_cases hr with ⟨f, h1, rfl⟩ | ⟨d, s1, h1, h2⟩
  · have C := Lib.hid (part_any w pB en s _ h h1)
    clear hr h1 h
    go_enter Tryz.func105, Tryz.ntmps105
    go_wp2_with fail
    refine C.out.mono ?_
    rintro e w' ⟨rfl, ht⟩
    go_wp2_with fail
    exact ⟨rfl, rfl, ht⟩
  · have C := Lib.hid (part_any w pB en s _ h h1)
    clear hr h1 h
    cases ha : aheadP s1 0 [91] with
    | true =>
      rw [if_pos ha] at h2
      simp only [PM.fail, Option.some.injEq] at h2
      subst h2
      have HA := Lib.hid ha
      clear ha
      go_enter Tryz.func105, Tryz.ntmps105
      go_wp2_with fail
      refine C.out.mono ?_
      rintro e w1 ⟨⟨rfl, hl⟩, hp, ht⟩
      have HP := Lib.hid hp
      have HT := Lib.hid ht
      clear hp ht
      go_wp2_with fail
      refine (may_yes w1 pB en s1 _ _ rfl HP.out HA.out).mono ?_
      rintro e w2 ⟨rfl, hp2, ht2⟩
      go_wp2_with fail
      refine (place_any w2 pB en _ hp2.out).mono ?_
      rintro e w3 ⟨rfl, rfl⟩
      go_wp2_with fail
      refine (fail_any _ _ _ _).mono ?_
      rintro e w3 ⟨rfl, rfl⟩
      go_wp2_with fail
      exact ⟨rfl, rfl, Tch.trans HT.out ht2.out⟩
    | false =>
      rw [if_neg (by rw [ha]; decide)] at h2
      simp only [Option.some.injEq] at h2
      subst h2
      have HA := Lib.hid ha
      clear ha
      go_enter Tryz.func105, Tryz.ntmps105
      go_wp2_with fail
      refine C.out.mono ?_
      rintro e w1 ⟨⟨rfl, hl⟩, hp, ht⟩
      have HP := Lib.hid hp
      have HT := Lib.hid ht
      clear hp ht
      go_wp2_with fail
      refine (may_no w1 pB en s1 _ _ rfl HP.out HA.out).mono ?_
      rintro e w2 ⟨rfl, rfl⟩
      go_wp2_with fail
      go_ret
      exact ⟨⟨rfl, hl⟩, HP.out, HT.out⟩
end Go.Proofs.YtcaigcmbgihhkaaGreatDoor
namespace Go.Proofs.YtcaigcmbgihhkaaGreatDoor
open Go Go.RowKit Go.Shelf
set_option linter.unusedVariables false
set_option linter.unusedSimpArgs false
attribute [local go_sem] Oper.semAt_some
set_option maxRecDepth 100000 in
theorem node_ret {fn : Func} {t : Tmp} (h : fn.results = #[.cell t 79]) {R : Ending → World → Prop} {a : Act} {W : World} {q : Nat} {cs : Array Value} (n : NodeD) (v : Value) (ht : a.tmps.getD t undef = .pointer (some ⟨q, 0, none⟩)) (hd : a.defers = [])
    (hb : Blk W q 79 cs) (hcs : cs = (ncells n v).toArray) (hR : R (.returned (.agg (ncells n v).toArray)) W) : bodyPost Tryz.prog fn R .ret a W := by
  subst hcs
  exact bodyPost_ret (results_cell_row h a.tmps W q 79 _ (0, 0) _ ht hb rfl rfl rfl) hd hR
def NodeQ (w : World) (a : NodeD) (e : Ending) (w' : World) : Prop := ∃ v, e = .returned (.agg #[.int .i64 a.op, .string (mkB a.text), .string (mkB a.type), .int .i64 a.n, v, .int .i64 a.at_]) ∧ KidsAt (fun k => w.heap.size ≤ k) w' a.kids v
theorem PAt.deep0 {w : World} {pB : Nat} {en : Int} {s : PSt} (h : PAt w pB en s) (d : Int) : ∃ v, Blk (w.setCell ⟨pB, 2, none⟩ (.int .i64 d)) pB 88 #[v, .int .i64 en, .int .i64 d] ∧ WordsAt pB (w.setCell ⟨pB, 2, none⟩ (.int .i64 d)) v s.ws := by
  obtain ⟨⟨v, hb, ao, c, e, h3, h4, h5⟩, _⟩ := h
  refine ⟨v, by simpa using hb.set 2 (.int .i64 d), ao, c, e, h3, h4, fun hne => ?_⟩
  obtain ⟨g, o, e, hg, hc⟩ := h5 hne
  refine ⟨g, o, e, hg, fun j x i u hx hu => ?_⟩
  rw [World.cell?_setCell_other _ ⟨pB, 2, none⟩ ⟨g, o + j * 4 + i, none⟩ _ (by simp <;> omega)]
  exact hc j x i u hx hu
theorem PAt.deep {w : World} {pB : Nat} {en : Int} {s : PSt} (h : PAt w pB en s) (d : Int) (h0 : 0 ≤ d) (h1 : d ≤ 24) : PAt (w.setCell ⟨pB, 2, none⟩ (.int .i64 d)) pB en ⟨s.ws, d⟩ :=
  ⟨h.deep0 d, h.2.1, h.2.2.1, h0, h1⟩
theorem six_go {W : World} {q : Nat} {T : TypeId} {a0 a1 a2 a3 a4 a5 a b c d e f : Value} {P : World → Prop} (h : Blk W q T #[a0, a1, a2, a3, a4, a5]) (k : ∀ W', Blk W' q T #[a, b, c, d, e, f] → Touch (fun i => i = q) W W' → P W') :
    P ((((((W.setCell ⟨q, 0, none⟩ a).setCell ⟨q, 1, none⟩ b).setCell ⟨q, 2, none⟩ c).setCell ⟨q, 3, none⟩ d).setCell ⟨q, 4, none⟩ e).setCell ⟨q, 5, none⟩ f) := by
  refine k _ ?_ ?_
  · have := (((((h.set 0 a).set 1 b).set 2 c).set 3 d).set 4 e).set 5 f
    simpa using this
  · exact ((((((Touch.refl (fun i => i = q) W).setCell (p := ⟨q, 0, none⟩) (.inl rfl) _).setCell (p := ⟨q, 1, none⟩) (.inl rfl) _).setCell (p := ⟨q, 2, none⟩) (.inl rfl) _).setCell (p := ⟨q, 3, none⟩) (.inl rfl) _).setCell (p := ⟨q, 4, none⟩) (.inl rfl) _).setCell (p := ⟨q, 5, none⟩) (.inl rfl) _
theorem Tch.own {pB : Nat} {w W W' : World} {q : Nat} (h : Tch pB w W) (k : Touch (fun i => i = q) W W') (hq : w.heap.size ≤ q) (hl : q < W.heap.size) : Tch pB w W' := Touch.trans h k (fun i hi => .inr ⟨by omega, by omega⟩)
theorem PAt.own {pB : Nat} {en : Int} {s : PSt} {W W' : World} {q : Nat} (h : PAt W pB en s) (k : Touch (fun i => i = q) W W') (hq : pB < q) : PAt W' pB en s := h.block (fun i hi => k.block i (by have := h.lt; omega) (by omega))
theorem KidsAt.own {ok : Nat → Prop} {W W' : World} {ks : List NodeD} {v : Value} {q : Nat} (h : KidsAt ok W ks v) (k : Touch (fun i => i = q) W W') (hq : ¬ ok q) : KidsAt ok W' ks v := h.keep (fun _ h _ => h) (fun i hi hl => k.block i hl (fun e => hq (e ▸ hi)))
set_option maxRecDepth 100000 in
set_option maxHeartbeats 2000000 in
theorem down_any (w : World) (pB : Nat) (en : Int) (s : PSt) (r : Except Fault (NodeD × PSt)) (M : PM NodeD) (f : Nat) (fr : Array Value) (hf : ∀ w, Sem.run Tryz.prog (callFunc f fr) w = .ok (.enter f fr) w) (h : PAt w pB en s) (hr : downP en M s = some r) (hmn : Mn M)
    (hM : ∀ w1 r1, PAt w1 pB en ⟨s.ws, s.deep + 1⟩ → Tch pB w w1 → M ⟨s.ws, s.deep + 1⟩ = some r1 → Calls Tryz.prog f fr w1 (PEnd pB en w1 (NodeQ w1) r1)) :
    Calls Tryz.prog 138 #[.pointer (some ⟨pB, 0, none⟩), .func (.func f) #[] fr] w (PEnd pB en w (NodeQ w) r) := by
  obtain ⟨ao, n, c, hn, h1, h2, hb, hc⟩ := h.cells
  have c2 : w.cell? ⟨pB, 2, none⟩ = some (.int .i64 s.deep) := hb.cell 2
  have f2 := hb.frozen 2
  have hlt := h.lt
  have hd0 := h.2.2.2.1
  have hd1 := h.2.2.2.2
  have HP := Lib.hid h
  have HM := Lib.hid hM
  have HMN := Lib.hid hmn
  unfold downP at hr
  clear h hM hmn hn h1 h2 hb hc
  by_cases h25 : s.deep = 24
  · rw [if_pos (by omega)] at hr
    simp only [PM.fail, Option.some.injEq] at hr
    subst hr
    rw [h25] at c2
    clear h25 hd0 hd1
    go_enter Tryz.func138, Tryz.ntmps138
    go_wp2_with fail
    have h0 := HP.out.deep0 25
    refine (place0_any _ pB en ⟨s.ws, 25⟩ ?_).mono ?_
    · obtain ⟨v, b1, b2⟩ := h0
      exact ⟨v, b1.alloc _, b2.below (m := w.heap.size) (by omega) ((Below.refl _ _).alloc (by simp [World.setCell]) _)⟩
    rintro e w' ⟨rfl, rfl⟩
    clear h0
    go_wp2_with fail
    refine (fail_any _ _ _ _).mono ?_
    rintro e w' ⟨rfl, rfl⟩
    go_wp2_with fail
    exact ⟨rfl, rfl, ((Touch.refl (fun k => k = pB) w).setCell (p := ⟨pB, 2, none⟩) (.inl rfl) _).alloc _⟩
  · rw [if_neg (by omega)] at hr
    have hd2 : s.deep + 1 ≤ 24 := by omega
    have hdd : decide (24 < s.deep + 1) = false := decide_eq_false (by omega)
    have HP2 : ∀ o, Hid (PAt ((w.setCell ⟨pB, 2, none⟩ (.int .i64 (s.deep + 1))).alloc o) pB en ⟨s.ws, s.deep + 1⟩) := fun o => Lib.hid ((HP.out.deep (s.deep + 1) (by omega) hd2).alloc o)
    have HT2 : ∀ o, Hid (Tch pB w ((w.setCell ⟨pB, 2, none⟩ (.int .i64 (s.deep + 1))).alloc o)) := fun o => Lib.hid (((Touch.refl (fun k => k = pB) w).setCell (p := ⟨pB, 2, none⟩) (.inl rfl) _).alloc o)
    rcases PM.bind_cases hr with ⟨fl, h1, rfl⟩ | ⟨a, s1, h1, h2⟩
    · have H1 := Lib.hid h1
      clear hr h1 h25
      go_enter Tryz.func138, Tryz.ntmps138
      go_wp2_with fail
      refine (HM.out _ _ (HP2 _).out (HT2 _).out H1.out).mono ?_
      rintro e w' ⟨rfl, ht⟩
      go_wp2_with fail
      exact ⟨rfl, rfl, Tch.trans (HT2 _).out ht⟩
    · simp only [Option.some.injEq] at h2
      subst h2
      have hsf := HMN.out _ _ _ h1
      have hd3 : s1.deep = s.deep + 1 := hsf.1
      have H1 := Lib.hid h1
      have HS := Lib.hid hsf
      clear hr h1 hsf
      obtain ⟨op, tx, ty, nn, ks, ap⟩ := a
      go_enter Tryz.func138, Tryz.ntmps138
      go_wp2_with fail
      refine (HM.out _ _ (HP2 _).out (HT2 _).out H1.out).mono ?_
      rintro e w1 ⟨⟨v, rfl, hk⟩, hp, ht⟩
      obtain ⟨va, vc, rfl⟩ := hk.form
      obtain ⟨ao', n', c', hn', h1', h2', hb', hc'⟩ := hp.cells
      have c2' : w1.cell? ⟨pB, 2, none⟩ = some (.int .i64 s1.deep) := hb'.cell 2
      have f2' := hb'.frozen 2
      rw [hd3] at c2'
      have hbr : Blk w1 w.heap.size 79 zeroN := Blk.tch (by simpa [World.setCell] using Blk.new (w.setCell ⟨pB, 2, none⟩ (.int .i64 (s.deep + 1))) 79 zeroN) ht (by omega)
      obtain ⟨r0, r1, r2, r3, r4, r5, rf, rl⟩ := hbr.six
      have hlt1 := hp.lt
      have HB := Lib.hid hbr
      have HPX := Lib.hid hp
      have HTX := Lib.hid (Tch.trans (HT2 _).out ht)
      have HKX := Lib.hid hk
      clear hn' h1' h2' hb' hc' hp ht hk c2 f2 hbr
      dsimp only [ncells, NodeD.op, NodeD.text, NodeD.type, NodeD.n, NodeD.at_]
      go_wp2_with fail
      have hbs := Blk.other (B' := pB) HB.out (by omega) 2 (.int .i64 s.deep)
      refine six_go (P := fun W' => bodyPost Tryz.prog _ _ _ _ (W'.alloc _)) hbs ?_
      intro W' hb6 ht6
      have hsz : (w1.setCell ⟨pB, 2, none⟩ (.int .i64 s.deep)).heap.size = w1.heap.size := by simp [World.setCell]
      refine node_ret rfl (NodeD.mk op tx ty nn ks ap) (.slice va ks.length vc) rfl rfl (hb6.alloc _) rfl ⟨⟨_, rfl, ?kids⟩, ?pat, ?tch⟩
      case kids =>
        have hk1 : KidsAt _ w1 ks (.slice va ks.length vc) := HKX.out
        have hk2 := hk1.setCell (q := pB) (by simp [World.setCell]; omega) 2 (.int .i64 s.deep)
        refine ((hk2.own ht6 (by simp [World.setCell])).mono (fun k h1 h2 => ?_)).alloc _
        have : w.heap.size + 1 ≤ k := by simpa [World.setCell] using h1
        show w.heap.size ≤ k
        omega
      case pat =>
        have hp1 := HPX.out.deep s.deep hd0 hd1
        have e : s1.deep - 1 = s.deep := by omega
        rw [e]
        exact (hp1.own ht6 (by omega)).alloc _
      case tch =>
        have ht1 := Touch.setCell (p := ⟨pB, 2, none⟩) HTX.out (.inl rfl) (.int .i64 s.deep)
        exact (Tch.own ht1 ht6 (Nat.le_refl _) (by omega)).alloc _
end Go.Proofs.YtcaigcmbgihhkaaGreatDoor
