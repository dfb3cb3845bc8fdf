/- Plain definitions and lemmas: the verdict about the last play of a game; what an allocation that floats leaves. No condition. -/
import Derived.Test.YtofcampipllegaaGreatDoorGvA
import Derived.Test.YtofcampipllegaaGreatDoorGmC
import Derived.Test.YtofcampipllegaaGreatDoorGfP
import Derived.Test.YtofcampipllegaaGreatDoorWrC
namespace Go.Proofs.YtofcampipllegaaGreatDoor
open Go.ChangeShapes Go.WideShapes Go.ChangeAt Go.RowKit Go.Sort

theorem calls_var {P : Program} {f : FuncId} {args : Array Value} {X : World} {cs : List Value} {t : TypeId} {Q : Ending → World → Prop}
  (h : ∀ wz, Below X.heap.size X wz → VarAt wz X.heap.size t cs → Calls P f args wz Q) : Calls P f args (X.alloc (.cells cs.toArray t)) Q :=
 h _ ((Below.refl _ _).alloc (Nat.le_refl _) _) (VarAt.new X t cs)
theorem calls_var_drew {P : Program} {f : FuncId} {args : Array Value} {X : World} {cs : List Value} {t : TypeId} {Q : Ending → World → Prop}
  (h : ∀ wz, Below X.drew.heap.size X.drew wz → VarAt wz X.heap.size t cs → Calls P f args wz Q) : Calls P f args (X.alloc (.cells cs.toArray t)).drew Q :=
 calls_var (X := X.drew) h
/-- the verdict about the last play -/
def Gam.wordsL (x : Gam) : List ByteArray := x.before.words x.last.play
def Gam.wrongW (x : Gam) : List ByteArray := wrongL x.setup.lexicon x.wordsL
def Gam.verdict (x : Gam) : Vdt := ⟨x.wordsL, x.wrongW, decide (0 < x.wrongW.length), if 0 < x.wrongW.length then wrap64 (- x.last.score) else if x.setup.rule = 3 then 5 * x.wordsL.length else 0⟩
def Gam.verdictOf (x : Gam) : Vdt × Int := if x.ok = false then (Vdt.zero, 1) else if x.may = false then (Vdt.zero, 6) else (x.verdict, 0)
theorem Gam.ver1 {x : Gam} (h : x.ok = false) : x.verdictOf = (Vdt.zero, 1) := by unfold Gam.verdictOf; rw [if_pos h]
theorem Gam.ver2 {x : Gam} (h : x.ok = true) (h1 : x.may = false) : x.verdictOf = (Vdt.zero, 6) := by unfold Gam.verdictOf; rw [if_neg (by rw [h]; decide), if_pos h1]
theorem Gam.ver3 {x : Gam} (h : x.ok = true) (h1 : x.may = true) : x.verdictOf = (x.verdict, 0) := by unfold Gam.verdictOf; rw [if_neg (by rw [h]; decide), if_neg (by rw [h1]; decide)]
theorem may_kind {x : Gam} (h : x.may = true) : x.last.kind = 1 := by
 by_cases h2 : x.last.kind = 1
 ·exact h2
 ·rw [may2 h2] at h
  cases h
/-- a game whose last play may be challenged has a good last play -/
theorem Gam.play_good {x : Gam} (h : x.ok = true) (h1 : x.may = true) : ∃ n, PGood x.before x.last.play n := by
 have hk := may_kind h1
 unfold Gam.ok at h
 simp only [Bool.and_eq_true] at h
 have hl : x.lastOk = true := h.2.2.2.2.2.2.2
 unfold Gam.lastOk at hl
 rw [if_neg (by rw [hk]; decide), if_neg (by rw [hk]; decide), if_neg (by rw [hk]; decide), if_pos hk] at hl
 unfold Gam.playOk at hl
 simp only [Bool.and_eq_true] at hl
 exact okPlay_good hl.2.1
/-- the score of a last play -/
theorem Gam.score_range {x : Gam} (h : x.ok = true) (h1 : x.may = true) : ∃ n : Nat, x.last.score = x.before.score x.last.play x.setup.tiles ∧ x.last.score ≤ 20000 ∧ PGood x.before x.last.play n := by
 have hk := may_kind h1
 obtain ⟨n, hn⟩ := Gam.play_good h h1
 unfold Gam.ok at h
 simp only [Bool.and_eq_true] at h
 have hl : x.lastOk = true := h.2.2.2.2.2.2.2
 unfold Gam.lastOk at hl
 rw [if_neg (by rw [hk]; decide), if_neg (by rw [hk]; decide), if_neg (by rw [hk]; decide), if_pos hk] at hl
 unfold Gam.playOk at hl
 simp only [Bool.and_eq_true, decide_eq_true_eq] at hl
 exact ⟨n, hl.2.2.2.2.2.2.2.2.1, hl.2.2.2.2.2.2.2.2.2.1, hn⟩
theorem Gam.verdictOf_small (x : Gam) : x.verdictOf.1.small := by
 cases h : x.ok with
 | false => rw [Gam.ver1 h]; exact ⟨by simp [Vdt.zero], by simp [Vdt.zero]⟩
 | true =>
  cases h1 : x.may with
  | false => rw [Gam.ver2 h h1]; exact ⟨by simp [Vdt.zero], by simp [Vdt.zero]⟩
  | true =>
   rw [Gam.ver3 h h1]
   obtain ⟨n, hn⟩ := Gam.play_good h h1
   have hw : x.wordsL.length ≤ 13 := words_len hn
   have hv : x.wrongW.length ≤ x.wordsL.length := wrongL_len _ _
   exact ⟨Nat.le_trans hw (by omega), Nat.le_trans (Nat.le_trans hv hw) (by omega)⟩
end Go.Proofs.YtofcampipllegaaGreatDoor
