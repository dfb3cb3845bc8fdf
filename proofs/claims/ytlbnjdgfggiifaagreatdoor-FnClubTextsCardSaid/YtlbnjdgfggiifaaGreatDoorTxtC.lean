/- Plain lemmas: the text of a club, and how it is read back. No program in sight. -/
import Derived.Test.YtlbnjdgfggiifaaGreatDoorClub
import Derived.Test.YtlbnjdgfggiifaaGreatDoorTxtP
namespace Go.Proofs.YtlbnjdgfggiifaaGreatDoor
open Go.Lib

def lineL (m : Mem) : List UInt8 := m.name.data.toList ++ 32 :: itoa m.rating
def clubL (ms : List Mem) : List UInt8 := ms.flatMap fun m => lineL m ++ [10]
def clubText (ms : List Mem) : ByteArray := if clubOk ms = true then mkB (clubL ms) else ⟨#[]⟩
def mapO {α β : Type} (f : α → Option β) : List α → Option (List β)
  | [] => some []
  | x :: r => match f x with
    | none => none
    | some y => match mapO f r with
      | none => none
      | some ys => some (y :: ys)
def cutL (c : UInt8) : List UInt8 → List UInt8 × List UInt8
  | [] => ([], [])
  | b :: l => if b = c then ([], l) else (b :: (cutL c l).1, (cutL c l).2)
theorem cutL_app {c : UInt8} {p : List UInt8} (r : List UInt8) (h : c ∉ p) : cutL c (p ++ c :: r) = (p, r) := by
  induction p with
  | nil => simp [cutL]
  | cons b p ih =>
    have hb : b ≠ c := fun e => h (by simp [e])
    rw [List.cons_append, cutL, if_neg hb, ih (fun hm => h (List.mem_cons_of_mem _ hm))]
/-- the lines of a text, and whether the last one is ended -/
def linesL (l : List UInt8) : List (List UInt8) × Bool :=
  if l = [] then ([], true) else if l.getLast? = some 10 then (splitL 10 l.dropLast, true) else (splitL 10 l, false)
def implLine (l : List UInt8) : Option Mem := (readDec (cutL 32 l).2).map fun n => ⟨mkB (cutL 32 l).1, n⟩
def specLine (l : List UInt8) : Option Mem := match splitL 32 l with
  | [a, x] => (specNum x).map fun n => ⟨mkB a, n⟩
  | _ => none
def readClub (l : List UInt8) : Option (List Mem) :=
  if (linesL l).2 = false ∨ 12 < (linesL l).1.length then none
  else match mapO implLine (linesL l).1 with
    | none => none
    | some ms => if clubOk ms = true ∧ clubL ms = l then some ms else none
def specClub (l : List UInt8) : Option (List Mem) :=
  if (splitL 10 l).getLast? ≠ some [] ∨ 13 < (splitL 10 l).length then none
  else match mapO specLine (splitL 10 l).dropLast with
    | none => none
    | some ms => if clubOk ms = true then some ms else none
theorem mapO_of {α β : Type} {f : α → Option β} {g : β → α} (ms : List β) (h : ∀ m ∈ ms, f (g m) = some m) : mapO f (ms.map g) = some ms := by
  induction ms with
  | nil => rfl
  | cons m ms ih =>
    simp only [List.map_cons, mapO, h m (List.mem_cons_self ..), ih (fun x hx => h x (List.mem_cons_of_mem _ hx))]
theorem mapO_back {α β : Type} {f : α → Option β} {g : β → α} (hf : ∀ x m, f x = some m → g m = x) : ∀ (l : List α) (ms : List β), mapO f l = some ms → ms.map g = l := by
  intro l
  induction l with
  | nil => intro ms h; simp only [mapO, Option.some.injEq] at h; rw [← h]; rfl
  | cons x l ih =>
    intro ms h
    simp only [mapO] at h
    split at h
    · cases h
    · rename_i y hy
      split at h
      · cases h
      · rename_i ys hys
        simp only [Option.some.injEq] at h
        rw [← h, List.map_cons, hf _ _ hy, ih ys hys]
theorem club_mem {ms : List Mem} (h : clubOk ms = true) : ms.length ≤ 12 ∧ ∀ m ∈ ms, isNameL m.name.data.toList = true ∧ 0 ≤ m.rating ∧ m.rating ≤ 4000 := by
  simp only [clubOk, Bool.and_eq_true, decide_eq_true_eq, List.all_eq_true, List.mem_range] at h
  refine ⟨h.1, fun m hm => ?_⟩
  obtain ⟨i, hi, rfl⟩ := List.getElem_of_mem hm
  have h2 := h.2 i hi
  unfold okAt at h2
  rw [List.getElem?_eq_getElem hi] at h2
  simp only [Bool.and_eq_true] at h2
  have h3 : memOk ms[i] = true := h2.1
  simpa [memOk, withinB, and_assoc] using h3
theorem line_plain {m : Mem} (h : isNameL m.name.data.toList = true) : (10 : UInt8) ∉ lineL m := by
  unfold lineL
  intro hm
  rcases List.mem_append.1 hm with hm | hm
  · exact name_blank h (by decide) hm
  · rcases List.mem_cons.1 hm with hm | hm
    · exact absurd hm (by decide)
    · exact itoa_blank _ (by decide) (by decide) hm
theorem club_split {ms : List Mem} (h : ∀ m ∈ ms, isNameL m.name.data.toList = true) : splitL 10 (clubL ms) = ms.map lineL ++ [[]] := by
  induction ms with
  | nil => rfl
  | cons m ms ih =>
    have e : clubL (m :: ms) = lineL m ++ 10 :: clubL ms := by simp [clubL]
    rw [e, splitL_app _ (line_plain (h m (List.mem_cons_self ..))), ih (fun x hx => h x (List.mem_cons_of_mem _ hx))]
    rfl
theorem implLine_of {m : Mem} (h : isNameL m.name.data.toList = true) (h0 : 0 ≤ m.rating) (h1 : m.rating ≤ 4000) : implLine (lineL m) = some m := by
  unfold implLine lineL
  rw [cutL_app _ (name_blank h (by decide))]
  simp only [readDec_eq, itoa_back (show -1000000 ≤ m.rating by omega) (by omega), mkB_of, Option.map_some]
theorem specLine_of {m : Mem} (h : isNameL m.name.data.toList = true) (h0 : 0 ≤ m.rating) (h1 : m.rating ≤ 4000) : specLine (lineL m) = some m := by
  unfold specLine lineL
  rw [splitL_app _ (name_blank h (by decide)), splitL_none (itoa_blank _ (by decide) (by decide))]
  simp only [itoa_back (show -1000000 ≤ m.rating by omega) (by omega), mkB_of, Option.map_some]
theorem specLine_back (x : List UInt8) (m : Mem) (h : specLine x = some m) : lineL m = x := by
  have hj := join_split 32 x
  unfold specLine at h
  split at h
  · rename_i a y hs
    rw [hs] at hj
    cases hn : specNum y with
    | none => rw [hn] at h; cases h
    | some n =>
      rw [hn] at h
      simp only [Option.map_some, Option.some.injEq] at h
      rw [← h, ← hj]
      unfold lineL
      rw [mkB_data, specNum_some hn]
      rfl
  · cases h
theorem club_join (ms : List Mem) : joinL 10 (ms.map lineL ++ [[]]) = clubL ms := by
  induction ms with
  | nil => rfl
  | cons m ms ih =>
    rw [List.map_cons, List.cons_append, joinL_cons _ _ (by simp), ih]
    simp [clubL]
theorem club_snoc {ms : List Mem} (h : ms ≠ []) : ∃ p : List UInt8, clubL ms = p ++ [10] := by
  refine ⟨clubL ms.dropLast ++ lineL (ms.getLast h), ?_⟩
  conv => lhs; rw [← List.dropLast_concat_getLast h]
  simp [clubL]
theorem readClub_iff (l : List UInt8) (ms : List Mem) : readClub l = some ms ↔ clubOk ms = true ∧ clubL ms = l := by
  constructor
  · intro h
    unfold readClub at h
    split at h
    · cases h
    · split at h
      · cases h
      · split at h
        · rename_i hh
          simp only [Option.some.injEq] at h
          rw [← h]
          exact hh
        · cases h
  · rintro ⟨h, rfl⟩
    obtain ⟨hl, hm⟩ := club_mem h
    have hs := club_split (ms := ms) (fun m hx => (hm m hx).1)
    have e : linesL (clubL ms) = (ms.map lineL, true) := by
      unfold linesL
      by_cases h0 : ms = []
      · subst h0; rfl
      · obtain ⟨p, hp⟩ := club_snoc h0
        rw [hp] at hs ⊢
        rw [split_snoc_same] at hs
        rw [if_neg (by simp), if_pos (by simp), List.dropLast_concat, List.append_cancel_right hs]
    unfold readClub
    rw [e]
    simp only [List.length_map]
    rw [if_neg (by simp; omega), mapO_of ms (fun m hx => implLine_of (hm m hx).1 (hm m hx).2.1 (hm m hx).2.2)]
    exact if_pos ⟨h, rfl⟩
theorem specClub_iff (l : List UInt8) (ms : List Mem) : specClub l = some ms ↔ clubOk ms = true ∧ clubL ms = l := by
  constructor
  · intro h
    have hj := join_split 10 l
    unfold specClub at h
    split at h
    · cases h
    · rename_i hc
      split at h
      · cases h
      · rename_i xs hx
        split at h
        · rename_i hh
          simp only [Option.some.injEq] at h
          subst h
          refine ⟨hh, ?_⟩
          have e := mapO_back (g := lineL) specLine_back _ _ hx
          have hlast : (splitL 10 l).getLast? = some [] := Classical.byContradiction fun hn => hc (.inl hn)
          have e2 : splitL 10 l = (splitL 10 l).dropLast ++ [[]] := by
            have := List.dropLast_concat_getLast (splitL_ne 10 l)
            rw [List.getLast?_eq_some_getLast (splitL_ne 10 l), Option.some.injEq] at hlast
            rw [hlast] at this
            exact this.symm
          rw [← hj, e2, ← e, club_join]
        · cases h
  · rintro ⟨h, rfl⟩
    obtain ⟨hl, hm⟩ := club_mem h
    have hs := club_split (ms := ms) (fun m hx => (hm m hx).1)
    unfold specClub
    rw [hs]
    rw [if_neg (by simp; omega), List.dropLast_concat, mapO_of ms (fun m hx => specLine_of (hm m hx).1 (hm m hx).2.1 (hm m hx).2.2)]
    exact if_pos h
theorem readClub_eq (l : List UInt8) : readClub l = specClub l := by
  cases h : readClub l with
  | some r => exact ((specClub_iff l r).2 ((readClub_iff l r).1 h)).symm
  | none =>
    cases h2 : specClub l with
    | none => rfl
    | some r => rw [(readClub_iff l r).2 ((specClub_iff l r).1 h2)] at h; cases h
end Go.Proofs.YtlbnjdgfggiifaaGreatDoor
