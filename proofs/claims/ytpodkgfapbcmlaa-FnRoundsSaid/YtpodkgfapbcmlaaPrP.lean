/- What a round is: plain functions. The program and the reference try the same partners in the same order. -/
import Derived.Test.YtpodkgfapbcmlaaStP
import Derived.Test.YtpodkgfapbcmlaaTPairing
namespace Go.Proofs.Ytpodkgfapbcmlaa
open Go.ChangeShapes Go.WideShapes Go.ChangeAt Go.RowKit Go.Sort

def Nm.enc (s : ByteArray) : List Value := [.string s]
theorem Nm.enc_len (s : ByteArray) : (Nm.enc s).length = 1 := rfl
def playedB (x y : ByteArray) (r : Res) : Bool := (r.a.toList == x.toList && r.b.toList == y.toList) || (r.a.toList == y.toList && r.b.toList == x.toList)
def played (rs : List Res) (x y : ByteArray) : Bool := rs.any (playedB x y)
theorem nm_getD {xs : List ByteArray} {k : Nat} (h : k < xs.length) : xs.getD k ⟨#[]⟩ = xs[k] := by simp [List.getD_eq_getElem?_getD, h]
/-- names without the k-th -/
def dropAt (xs : List ByteArray) (k : Nat) : List ByteArray := xs.take k ++ xs.drop (k + 1)
/-- .. and without the first -/
def without (xs : List ByteArray) (k : Nat) : List ByteArray := (xs.take k).drop 1 ++ xs.drop (k + 1)
theorem dropAt_len {xs : List ByteArray} {k : Nat} (h : k < xs.length) : (dropAt xs k).length = xs.length - 1 := by simp [dropAt]; omega
theorem without_len {xs : List ByteArray} {k : Nat} (h : k < xs.length) (h0 : 0 < k) : (without xs k).length = xs.length - 2 := by simp [without]; omega
theorem dropAt_tail {xs : List ByteArray} {k : Nat} (h0 : 0 < k) (h : k < xs.length) : (dropAt xs k).drop 1 = without xs k := by
  unfold dropAt without
  rw [List.drop_append_of_le_length (by simp; omega)]
/-- partners of the first name, from the k-th on; n: how many are left to be tried -/
def tryFrom (rs : List Res) (rec : List ByteArray → List Pai × Bool) (names : List ByteArray) : Nat → Nat → List Pai × Bool
  | 0, _ => ([], false)
  | n + 1, k =>
    if played rs (names.getD 0 ⟨#[]⟩) (names.getD k ⟨#[]⟩) = true then tryFrom rs rec names n (k + 1)
    else if (rec (without names k)).2 = true then (⟨names.getD 0 ⟨#[]⟩, names.getD k ⟨#[]⟩⟩ :: (rec (without names k)).1, true) else tryFrom rs rec names n (k + 1)
def pairsN (rs : List Res) : Nat → List ByteArray → List Pai × Bool
  | 0, names => if names.length = 0 then ([], true) else ([], false)
  | f + 1, names => if names.length = 0 then ([], true) else tryFrom rs (pairsN rs f) names (names.length - 1) 1
theorem pairsN_nil (rs : List Res) (f : Nat) : pairsN rs f [] = ([], true) := by cases f <;> rfl
theorem pairsN_succ {rs : List Res} {f : Nat} {names : List ByteArray} (h : 0 < names.length) : pairsN rs (f + 1) names = tryFrom rs (pairsN rs f) names (names.length - 1) 1 := by
  rw [pairsN, if_neg (by omega)]
theorem tryFrom_played {rs : List Res} {rec : List ByteArray → List Pai × Bool} {names : List ByteArray} {k : Nat} (h : k < names.length) (h1 : played rs (names[0]'(by omega)) names[k] = true) :
    tryFrom rs rec names (names.length - k) k = tryFrom rs rec names (names.length - (k + 1)) (k + 1) := by
  rw [show names.length - k = (names.length - (k + 1)) + 1 from by omega, tryFrom, nm_getD (by omega), nm_getD h, if_pos h1]
theorem tryFrom_no {rs : List Res} {rec : List ByteArray → List Pai × Bool} {names : List ByteArray} {k : Nat} (h : k < names.length) (h1 : played rs (names[0]'(by omega)) names[k] = false) (h2 : (rec (without names k)).2 = false) :
    tryFrom rs rec names (names.length - k) k = tryFrom rs rec names (names.length - (k + 1)) (k + 1) := by
  rw [show names.length - k = (names.length - (k + 1)) + 1 from by omega, tryFrom, nm_getD (by omega), nm_getD h, if_neg (by rw [h1]; decide), if_neg (by rw [h2]; decide)]
theorem tryFrom_yes {rs : List Res} {rec : List ByteArray → List Pai × Bool} {names : List ByteArray} {k : Nat} (h : k < names.length) (h1 : played rs (names[0]'(by omega)) names[k] = false) (h2 : (rec (without names k)).2 = true) :
    tryFrom rs rec names (names.length - k) k = (⟨names[0]'(by omega), names[k]⟩ :: (rec (without names k)).1, true) := by
  rw [show names.length - k = (names.length - (k + 1)) + 1 from by omega, tryFrom, nm_getD (by omega), nm_getD h, if_neg (by rw [h1]; decide), if_pos h2]
theorem tryFrom_end {rs : List Res} {rec : List ByteArray → List Pai × Bool} {names : List ByteArray} {k : Nat} (h : ¬ k < names.length) : tryFrom rs rec names (names.length - k) k = ([], false) := by
  rw [show names.length - k = 0 from by omega, tryFrom]
theorem tryFrom_len {rs : List Res} {rec : List ByteArray → List Pai × Bool} {names : List ByteArray} {b : Nat} (hr : ∀ xs, xs.length + 2 ≤ names.length → (rec xs).1.length ≤ b) (hn : 0 < names.length) : ∀ n k, k + n = names.length → 0 < k → (tryFrom rs rec names n k).1.length ≤ b + 1 := by
  intro n
  induction n with
  | zero => intro k _ _; simp [tryFrom]
  | succ n ih =>
    intro k hk h0
    unfold tryFrom
    split
    · exact ih (k + 1) (by omega) (by omega)
    · split
      · have := hr (without names k) (by rw [without_len (by omega) h0]; omega)
        simp only [List.length_cons]; omega
      · exact ih (k + 1) (by omega) (by omega)
theorem pairsN_len (rs : List Res) : ∀ f names, names.length ≤ 2 * f + 1 → (pairsN rs f names).1.length ≤ f := by
  intro f
  induction f with
  | zero => intro names _; unfold pairsN; split <;> simp
  | succ f ih =>
    intro names h
    by_cases h0 : names.length = 0
    · unfold pairsN; rw [if_pos h0]; simp
    · rw [pairsN_succ (by omega)]
      exact tryFrom_len (fun xs hx => ih xs (by omega)) (by omega) _ _ (by omega) (by omega)
theorem pairsN_try {rs : List Res} {f : Nat} {names : List ByteArray} (h0 : 0 < names.length) (h : names.length ≤ 2 * f + 1) : pairsN rs f names = tryFrom rs (pairsN rs (f - 1)) names (names.length - 1) 1 := by
  cases f with
  | zero =>
    rw [pairsN, if_neg (by omega), show names.length - 1 = 0 from by omega, tryFrom]
  | succ f => exact pairsN_succ h0
/-- who has a bye: the last one without one who leaves the others paired; k: how many are left to be tried -/
def oddFrom (rs : List Res) (names : List ByteArray) : Nat → List Pai × Bool
  | 0 => ([], false)
  | k + 1 =>
    if played rs (names.getD k ⟨#[]⟩) ⟨#[]⟩ = true then oddFrom rs names k
    else if (pairsN rs 13 (dropAt names k)).2 = true then ((pairsN rs 13 (dropAt names k)).1 ++ [⟨names.getD k ⟨#[]⟩, ⟨#[]⟩⟩], true) else oddFrom rs names k
theorem oddFrom_played {rs : List Res} {names : List ByteArray} {k : Nat} (h : k < names.length) (h1 : played rs names[k] ⟨#[]⟩ = true) : oddFrom rs names (k + 1) = oddFrom rs names k := by
  rw [oddFrom, nm_getD h, if_pos h1]
theorem oddFrom_no {rs : List Res} {names : List ByteArray} {k : Nat} (h : k < names.length) (h1 : played rs names[k] ⟨#[]⟩ = false) (h2 : (pairsN rs 13 (dropAt names k)).2 = false) : oddFrom rs names (k + 1) = oddFrom rs names k := by
  rw [oddFrom, nm_getD h, if_neg (by rw [h1]; decide), if_neg (by rw [h2]; decide)]
theorem oddFrom_yes {rs : List Res} {names : List ByteArray} {k : Nat} (h : k < names.length) (h1 : played rs names[k] ⟨#[]⟩ = false) (h2 : (pairsN rs 13 (dropAt names k)).2 = true) : oddFrom rs names (k + 1) = ((pairsN rs 13 (dropAt names k)).1 ++ [⟨names[k], ⟨#[]⟩⟩], true) := by
  rw [oddFrom, nm_getD h, if_neg (by rw [h1]; decide), if_pos h2]
def namesOf (ms : List Mem) (rs : List Res) : List ByteArray := (tableOf ms rs).map (·.name)
def roundOf (rs : List Res) (names : List ByteArray) : List Pai × Int :=
  if names.length % 2 = 0 then (if (pairsN rs 13 names).2 = true then ((pairsN rs 13 names).1, 0) else ([], 3)) else (if (oddFrom rs names names.length).2 = true then ((oddFrom rs names names.length).1, 0) else ([], 3))
theorem roundOf_even_yes {rs : List Res} {names : List ByteArray} (h : names.length % 2 = 0) (h2 : (pairsN rs 13 names).2 = true) : roundOf rs names = ((pairsN rs 13 names).1, 0) := by unfold roundOf; rw [if_pos h, if_pos h2]
theorem roundOf_even_no {rs : List Res} {names : List ByteArray} (h : names.length % 2 = 0) (h2 : (pairsN rs 13 names).2 = false) : roundOf rs names = ([], 3) := by unfold roundOf; rw [if_pos h, if_neg (by rw [h2]; decide)]
theorem roundOf_odd_yes {rs : List Res} {names : List ByteArray} {p : List Pai} (h : ¬ names.length % 2 = 0) (h2 : oddFrom rs names names.length = (p, true)) : roundOf rs names = (p, 0) := by unfold roundOf; rw [if_neg h, h2, if_pos rfl]
theorem roundOf_odd_no {rs : List Res} {names : List ByteArray} (h : ¬ names.length % 2 = 0) (h2 : oddFrom rs names names.length = ([], false)) : roundOf rs names = ([], 3) := by unfold roundOf; rw [if_neg h, h2, if_neg (by decide)]
def pairRound (ms : List Mem) (rs : List Res) : List Pai × Int := if codeOf ms rs = 0 then roundOf rs (namesOf ms rs) else ([], codeOf ms rs)
theorem pairRound_bad {ms : List Mem} {rs : List Res} (h : codeOf ms rs ≠ 0) : pairRound ms rs = ([], codeOf ms rs) := by unfold pairRound; rw [if_neg h]
theorem pairRound_ok {ms : List Mem} {rs : List Res} (h : codeOf ms rs = 0) : pairRound ms rs = roundOf rs (namesOf ms rs) := by unfold pairRound; rw [if_pos h]
theorem namesOf_len (ms : List Mem) (rs : List Res) : (namesOf ms rs).length = ms.length := by simp [namesOf, tableOf_len]
theorem oddFrom_len {rs : List Res} {names : List ByteArray} (hn : names.length ≤ 12) : ∀ k, k ≤ names.length → (oddFrom rs names k).1.length ≤ 14 := by
  intro k
  induction k with
  | zero => intro _; simp [oddFrom]
  | succ k ih =>
    intro hk
    unfold oddFrom
    split
    · exact ih (by omega)
    · split
      · have := pairsN_len rs 13 (dropAt names k) (by rw [dropAt_len (by omega)]; omega)
        simp only [List.length_append, List.length_cons, List.length_nil]; omega
      · exact ih (by omega)
theorem pairRound_len (ms : List Mem) (rs : List Res) : (pairRound ms rs).1.length ≤ 14 := by
  by_cases h : codeOf ms rs = 0
  · rw [pairRound_ok h]
    have hc := (code_zero h).1
    have h12 : ms.length ≤ 12 := by
      simp only [clubOk, Bool.and_eq_true, decide_eq_true_eq] at hc
      exact hc.1
    have hl := namesOf_len ms rs
    unfold roundOf
    split
    · split
      · have := pairsN_len rs 13 (namesOf ms rs) (by omega)
        simp only; omega
      · simp
    · split
      · exact oddFrom_len (by omega) _ (Nat.le_refl _)
      · simp
  · rw [pairRound_bad h]; simp
end Go.Proofs.Ytpodkgfapbcmlaa
