/- Plain lemmas on decimal numerals: what the program reads back and what the reference reads · Plain: the text of a tile set, read; the two tile sets that are given. No condition. · Plain: what a step may write (for a seat without games). No condition. -/
import Derived.Lib.ItoaMem
import Derived.Lib.AtoiTie
import Derived.Lib.ParseIntBTie
import Derived.Test.YtjdcdhhbgijaoaaGreatDoorTiC
import Derived.Test.YtjdcdhhbgijaoaaGreatDoorSplI
import Derived.Test.YtjdcdhhbgijaoaaGreatDoorFsB
import Derived.Test.YtjdcdhhbgijaoaaGreatDoorDbD
import Derived.Test.YtjdcdhhbgijaoaaGreatDoorVar
namespace Go.Proofs.YtjdcdhhbgijaoaaGreatDoor
open Go.Lib

/-- a text without the sign at its front -/
def dropMinus : List UInt8 → List UInt8
  | [] => []
  | c :: r => if c = 45 then r else c :: r
/-- the same, digit by digit -/
def specNum (l : List UInt8) : Option Int :=
  if (dropMinus l).length < 1 ∨ 18 < (dropMinus l).length then none
  else match decFrom 0 (dropMinus l) with
    | none => none
    | some m => if itoa (if (dropMinus l).length < l.length then -(m : Int) else m) = l then some (if (dropMinus l).length < l.length then -(m : Int) else m) else none
theorem decFrom_append (l r : List UInt8) : ∀ (a m : Nat), decFrom a l = some m → decFrom a (l ++ r) = decFrom m r := by
  induction l with
  | nil => intro a m h; simp only [decFrom, Option.some.injEq] at h; subst h; rfl
  | cons c l ih =>
    intro a m h
    simp only [decFrom, List.cons_append] at h ⊢
    cases hd : digitVal c with
    | none => rw [hd] at h; cases h
    | some d => rw [hd] at h; exact ih _ _ h
end Go.Proofs.YtjdcdhhbgijaoaaGreatDoor
namespace Go.Proofs.YtjdcdhhbgijaoaaGreatDoor
open Go.ChangeShapes Go.WideShapes Go.ChangeAt Go.RowKit Go.Sort

def tlsNone : Tls := ⟨⟨#[]⟩, [], [], 0⟩
/-- the two halves of a word of a tile set's text -/
def partS (w : List UInt8) : Option (List UInt8 × List UInt8) := match splitL 120 w with
  | [p, q] => if p = [] then none else some (p, q)
  | [p, q, r] => if p = [] then some (120 :: q, r) else none
  | _ => none
/-- a word, read into a tile set -/
def wordS (t : Tls) (w : List UInt8) : Tls × Bool := match partS w with
  | none => (t, false)
  | some (p, q) =>
    if p = [63] then ({ t with blanks := (specNum q).getD 0 }, (specNum q).isSome && decide (0 < (specNum q).getD 0))
    else ({ t with letters := t.letters ++ mkB (p.take 1), values := t.values ++ [(specNum (p.drop 1)).getD 0], counts := t.counts ++ [(specNum q).getD 0] }, (specNum q).isSome && ((specNum (p.drop 1)).isSome && decide (t.blanks = 0)))
def wordsS : Tls → List (List UInt8) → Tls × Bool
  | t, [] => (t, true)
  | t, w :: ws => match wordS t w with
    | (t2, true) => wordsS t2 ws
    | (t2, false) => (t2, false)
/-- a letter's word -/
def tileW (t : Tls) (i : Nat) : List UInt8 := t.letters.data.toList.getD i 0 :: (Lib.itoa (t.values.getD i 0) ++ 120 :: Lib.itoa (t.counts.getD i 0))
def tilesK (t : Tls) : Nat → List UInt8
  | 0 => []
  | i + 1 => if i = 0 then tileW t 0 else tilesK t i ++ 32 :: tileW t i
/-- the text of a tile set -/
def tilesT (t : Tls) : List UInt8 := if 0 < t.blanks then tilesK t t.letters.size ++ [32, 63, 120] ++ Lib.itoa t.blanks else tilesK t t.letters.size
def readS (s : List UInt8) : Tls × Bool :=
  if 27 < (splitL 32 s).length then (tlsNone, false)
  else if (wordsS tlsNone (splitL 32 s)).2 = true ∧ (wordsS tlsNone (splitL 32 s)).1.ok = true ∧ tilesT (wordsS tlsNone (splitL 32 s)).1 = s then ((wordsS tlsNone (splitL 32 s)).1, true) else (tlsNone, false)
def smallX : ByteArray := ⟨#[97, 49, 120, 51, 32, 101, 49, 120, 51, 32, 110, 50, 120, 50, 32, 114, 50, 120, 50, 32, 115, 49, 120, 50, 32, 116, 50, 120, 50, 32, 63, 120, 49]⟩
def smallT : Tls := ⟨⟨#[97, 101, 110, 114, 115, 116]⟩, [1, 1, 2, 2, 1, 2], [3, 3, 2, 2, 2, 2], 1⟩
theorem small_text : tilesT smallT = smallX.data.toList := by kernel_rfl
theorem small_ok : smallT.ok = true := by kernel_rfl
def englishX : ByteArray := ⟨#[97, 49, 120, 57, 32, 98, 51, 120, 50, 32, 99, 51, 120, 50, 32, 100, 50, 120, 52, 32, 101, 49, 120, 49, 50, 32, 102, 52, 120, 50, 32, 103, 50, 120, 51, 32, 104, 52, 120, 50, 32, 105, 49, 120, 57, 32, 106, 56, 120, 49, 32, 107, 53, 120, 49, 32, 108, 49, 120, 52, 32, 109, 51, 120, 50, 32, 110, 49, 120, 54, 32, 111, 49, 120, 56, 32, 112, 51, 120, 50, 32, 113, 49, 48, 120, 49, 32, 114, 49, 120, 54, 32, 115, 49, 120, 52, 32, 116, 49, 120, 54, 32, 117, 49, 120, 52, 32, 118, 52, 120, 50, 32, 119, 52, 120, 50, 32, 120, 56, 120, 49, 32, 121, 52, 120, 50, 32, 122, 49, 48, 120, 49, 32, 63, 120, 50]⟩
def englishT : Tls := ⟨⟨#[97, 98, 99, 100, 101, 102, 103, 104, 105, 106, 107, 108, 109, 110, 111, 112, 113, 114, 115, 116, 117, 118, 119, 120, 121, 122]⟩, [1, 3, 3, 2, 1, 4, 2, 4, 1, 8, 5, 1, 3, 1, 1, 3, 10, 1, 1, 1, 1, 4, 4, 8, 4, 10], [9, 2, 2, 4, 12, 2, 3, 2, 9, 1, 1, 4, 2, 6, 8, 2, 1, 6, 4, 6, 4, 2, 2, 1, 2, 1], 2⟩
theorem english_text : tilesT englishT = englishX.data.toList := by kernel_rfl
theorem english_ok : englishT.ok = true := by kernel_rfl
end Go.Proofs.YtjdcdhhbgijaoaaGreatDoor
namespace Go.Proofs.YtjdcdhhbgijaoaaGreatDoor
open Go.ChangeShapes Go.WideShapes Go.ChangeAt Go.RowKit Go.Sort

def IZ (w : World) (base : Nat) (a : Option Addr) (c : Nat) (ms : List Int) : Prop := ms = [] ∨ w.ownsRow base 2 1 (.slice a ms.length c) ms.length (ms.flatMap I64.enc)
theorem offA_none (b : Option Addr) : offA none b := fun _ h => by cases h
theorem offA.symm {a b : Option Addr} (h : offA a b) : offA b a := fun g h1 h2 => h g h2 h1
theorem own_lt {w : World} {base : Nat} {e : TypeId} {sz n c : Nat} {L : List Value} {a : Option Addr} (h : w.ownsRow base e sz (.slice a n c) n L) : ∀ g, a.map (·.block) = some g → base ≤ g ∧ g < w.heap.size := by
  intro g hg
  cases a with
  | none => cases hg
  | some x => exact h.lt g hg
structure Wrote (lo : Nat) (S : List (Option Addr)) (w w' : World) : Prop where
  below : Below lo w w'
  own : ∀ {base : Nat} {e : TypeId} {sz n c : Nat} {L : List Value} {a : Option Addr}, (∀ s ∈ S, offA s a) → w.ownsRow base e sz (.slice a n c) n L → w'.ownsRow base e sz (.slice a n c) n L
theorem Wrote.of_below {lo : Nat} {S : List (Option Addr)} {w w' : World} (h : Below w.heap.size w w') (hl : lo ≤ w.heap.size) : Wrote lo S w w' := ⟨h.mono hl, fun _ ho => own_below ho h⟩
theorem Wrote.of_grown {lo : Nat} {w w' : World} {a : Option Addr} {n c : Nat} (h : w.grownBy w' (Value.slice a n c).ownBlock) (hl : lo ≤ w.heap.size) (hg : ∀ g, a.map (·.block) = some g → lo ≤ g) : Wrote lo [a] w w' := by
  have ho : ∀ k, (Value.slice a n c).ownBlock = some k → a.map (·.block) = some k := by
    intro k hk
    cases a with
    | none => cases hk
    | some x => exact hk
  refine ⟨(Below.refl lo w).grown h hl (fun k hk => hg k (ho k hk)), ?_⟩
  intro base e sz n2 c2 L b hb hown
  refine ⟨hown.1, ?_⟩
  rcases hown.2 with hn | ⟨g, cap, cur, hv, hge, hgg, rest⟩
  · exact .inl hn
  · refine .inr ⟨g, cap, cur, hv, hge, ?_, rest⟩
    rw [h.block g (Array.getElem?_eq_some_iff.1 hgg).1 (fun e => ?_)]
    · exact hgg
    · have e2 := ho g e.symm
      have e3 : b = some ⟨g, 0, none⟩ := by
        simp only [Value.slice.injEq] at hv
        exact hv.1
      exact hb a (List.mem_singleton.2 rfl) g e2 (by rw [e3]; rfl)
theorem Wrote.trans {lo : Nat} {S T : List (Option Addr)} {a b c : World} (h : Wrote lo S a b) (k : Wrote lo T b c) : Wrote lo (S ++ T) a c :=
  ⟨h.below.trans k.below, fun hs ho => k.own (fun s hm => hs s (List.mem_append_right _ hm)) (h.own (fun s hm => hs s (List.mem_append_left _ hm)) ho)⟩
theorem Wrote.size {lo : Nat} {S : List (Option Addr)} {w w' : World} (h : Wrote lo S w w') : w.heap.size ≤ w'.heap.size := h.below.size
theorem VarAt.wrote {w w' : World} {g lo : Nat} {t : TypeId} {cs : List Value} {S : List (Option Addr)} (h : VarAt w g t cs) (hw : Wrote lo S w w') (ho : ∀ s ∈ S, offA s (some ⟨g, 0, none⟩)) : VarAt w' g t cs := hw.own ho h

def tlCells (x : Tls) (q : TlA) : List Value := [.string x.letters, .slice q.values.a x.values.length q.values.c, .slice q.counts.a x.counts.length q.counts.c, .int .i64 x.blanks]
theorem wrote_box {w w' : World} {base g : Nat} (hg : w.grownBy w' (some g)) (h1 : base ≤ w.heap.size) (h2 : base ≤ g) : Wrote base [some ⟨g, 0, none⟩] w w' := Wrote.of_grown (a := some ⟨g, 0, none⟩) (n := 1) (c := 1) hg h1 (fun k hk => by cases hk; exact h2)
theorem IZ.block {w : World} {base c : Nat} {a : Option Addr} {ms : List Int} (h : IZ w base a c ms) (hne : 0 < ms.length) : ∃ gb, a = some ⟨gb, 0, none⟩ ∧ base ≤ gb ∧ gb < w.heap.size ∧ w.ownsRow base 2 1 (.slice (some ⟨gb, 0, none⟩) ms.length c) ms.length (ms.flatMap I64.enc) := by
  have ho := h.resolve_left (by intro e; subst e; simp at hne)
  rcases ho.2 with ⟨hv, h0⟩ | ⟨gb, cap, cur, hv, r⟩
  · omega
  · simp only [Value.slice.injEq] at hv
    obtain ⟨rfl, _, rfl⟩ := hv
    exact ⟨gb, rfl, (ho.lt gb rfl).1, (ho.lt gb rfl).2, ho⟩
theorem enc_set1 {α : Type} {enc : α → List Value} {f : α → Value} (he : ∀ x, enc x = [f x]) : ∀ (xs : List α) (k : Nat) (v : α), (xs.flatMap enc).set k (f v) = (xs.set k v).flatMap enc
  | [], _, _ => by simp
  | x :: xs, 0, v => by simp [he]
  | x :: xs, k + 1, v => by
    rw [List.set_cons_succ, List.flatMap_cons, List.flatMap_cons, he x, ← enc_set1 he xs k v]
    rfl
theorem IZ.setAt {w : World} {base c gb : Nat} {ms : List Int} (h : w.ownsRow base 2 1 (.slice (some ⟨gb, 0, none⟩) ms.length c) ms.length (ms.flatMap I64.enc)) (k : Nat) (v : Int) (hlo : base ≤ w.heap.size) : IZ (w.setCell ⟨gb, k, none⟩ (.int .i64 v)) base (some ⟨gb, 0, none⟩) c (ms.set k v) ∧ Wrote base [some ⟨gb, 0, none⟩] w (w.setCell ⟨gb, k, none⟩ (.int .i64 v)) ∧ w.grownBy (w.setCell ⟨gb, k, none⟩ (.int .i64 v)) (some gb) := by
  obtain ⟨h1, h2⟩ := World.ownsRow.stored h k (.int .i64 v)
  refine ⟨.inr ?_, Wrote.of_grown (a := some ⟨gb, 0, none⟩) (n := ms.length) (c := c) h2 hlo (fun g e => ?_), h2⟩
  · rw [List.length_set, ← enc_set1 (enc := I64.enc) (f := fun v => .int .i64 v) (fun _ => rfl) ms k v]
    exact h1
  · cases e
    exact (h.lt gb rfl).1
theorem Tls.counts_rng {x : Tls} (h : x.ok = true) : (0 ≤ x.blanks ∧ x.blanks ≤ 4) ∧ ∀ i, 0 ≤ x.counts.getD i 0 ∧ x.counts.getD i 0 ≤ 20 := by
  unfold Tls.ok at h
  simp only [Bool.and_eq_true, decide_eq_true_eq, within_iff] at h
  obtain ⟨h1, h2, h3, h4, h5, h6⟩ := h
  refine ⟨h4, fun i => ?_⟩
  by_cases hi : i < x.letters.size
  · have := all_range_get h5 hi
    unfold Tls.okAt at this
    simp only [Bool.and_eq_true, within_iff] at this
    omega
  · rw [show x.counts.getD i 0 = 0 from by rw [List.getD_eq_getElem?_getD, List.getElem?_eq_none (by omega)]; rfl]
    omega
end Go.Proofs.YtjdcdhhbgijaoaaGreatDoor
