/- The plain law of FnRounds: a round pairs everybody once, nobody with somebody of an elder game, and at most the last one has a bye. No program in sight. -/
import Derived.Test.YtpodkgfapbcmlaaPrP
import Derived.Test.YtpodkgfapbcmlaaTbP
namespace Go.Proofs.Ytpodkgfapbcmlaa
open Go.ChangeShapes Go.WideShapes Go.ChangeAt Go.RowKit Go.Sort

def pairNames (p : Pai) : List ByteArray := if p.b.toList.isEmpty = true then [p.a] else [p.a, p.b]
def flatNames (ps : List Pai) : List ByteArray := ps.flatMap pairNames
def hasB (l : List ByteArray) (s : ByteArray) : Bool := l.any fun x => x.toList == s.toList
theorem hasB_false {l : List ByteArray} {s : ByteArray} : hasB l s = false ↔ ∀ x ∈ l, ¬ x.toList = s.toList := by simp [hasB]
theorem split_at {xs : List ByteArray} {k : Nat} (hk : k < xs.length) : xs = xs.take k ++ xs[k] :: xs.drop (k + 1) := by
  rw [← List.drop_eq_getElem_cons hk, List.take_append_drop]
theorem without_perm {xs : List ByteArray} {k : Nat} (hk : k < xs.length) (h0 : 0 < k) : (xs[0]'(by omega) :: xs[k] :: without xs k).Perm xs := by
  cases xs with
  | nil => simp at hk
  | cons x xs =>
    obtain ⟨j, rfl⟩ : ∃ j, k = j + 1 := ⟨k - 1, by omega⟩
    have hj : j < xs.length := by simpa using hk
    have e : without (x :: xs) (j + 1) = xs.take j ++ xs.drop (j + 1) := by simp [without]
    rw [e]
    simp only [List.getElem_cons_zero, List.getElem_cons_succ]
    refine List.Perm.cons x ?_
    have := (List.perm_middle (a := xs[j]) (l₁ := xs.take j) (l₂ := xs.drop (j + 1))).symm
    rwa [← split_at hj] at this
theorem dropAt_perm {xs : List ByteArray} {k : Nat} (hk : k < xs.length) : (dropAt xs k ++ [xs[k]]).Perm xs := by
  have h1 := (List.perm_middle (a := xs[k]) (l₁ := xs.take k) (l₂ := xs.drop (k + 1))).symm
  rw [← split_at hk] at h1
  exact (List.perm_append_comm (l₂ := [xs[k]])).trans h1
def Good (rs : List Res) (names : List ByteArray) (ps : List Pai) : Prop := (flatNames ps).Perm names ∧ ∀ p ∈ ps, played rs p.a p.b = false ∧ p.b.toList.isEmpty = false
def Full (names : List ByteArray) : Prop := ∀ x ∈ names, x.toList.isEmpty = false
theorem without_full {xs : List ByteArray} {k : Nat} (h : Full xs) : Full (without xs k) := by
  intro x hx
  unfold without at hx
  rcases List.mem_append.1 hx with h1 | h1
  · exact h x (List.mem_of_mem_take (List.mem_of_mem_drop h1))
  · exact h x (List.mem_of_mem_drop h1)
theorem dropAt_full {xs : List ByteArray} {k : Nat} (h : Full xs) : Full (dropAt xs k) := by
  intro x hx
  unfold dropAt at hx
  rcases List.mem_append.1 hx with h1 | h1
  · exact h x (List.mem_of_mem_take h1)
  · exact h x (List.mem_of_mem_drop h1)
theorem tryFrom_good {rs : List Res} {rec : List ByteArray → List Pai × Bool} (hrec : ∀ xs, Full xs → (rec xs).2 = true → Good rs xs (rec xs).1) {names : List ByteArray} (hf : Full names) :
    ∀ n k, k + n = names.length → 0 < k → (tryFrom rs rec names n k).2 = true → Good rs names (tryFrom rs rec names n k).1 := by
  intro n
  induction n with
  | zero => intro k _ _ h; simp [tryFrom] at h
  | succ n ih =>
    intro k hk h0
    have hkl : k < names.length := by omega
    unfold tryFrom
    split
    · exact ih (k + 1) (by omega) (by omega)
    · rename_i hp
      split
      · rename_i h2
        intro _
        obtain ⟨g1, g2⟩ := hrec (without names k) (without_full hf) h2
        rw [nm_getD (by omega), nm_getD hkl] at hp ⊢
        have hbe : names[k].toList.isEmpty = false := hf _ (List.getElem_mem hkl)
        refine ⟨?_, ?_⟩
        · have e : flatNames (⟨names[0]'(by omega), names[k]⟩ :: (rec (without names k)).1) = names[0]'(by omega) :: names[k] :: flatNames (rec (without names k)).1 := by
            simp [flatNames, pairNames, hbe]
          simp only
          rw [e]
          exact ((g1.cons _).cons _).trans (without_perm hkl h0)
        · intro p hpm
          rcases List.mem_cons.1 hpm with rfl | hpm
          · exact ⟨by simpa using hp, hbe⟩
          · exact g2 p hpm
      · exact ih (k + 1) (by omega) (by omega)
theorem pairsN_good (rs : List Res) : ∀ f names, Full names → (pairsN rs f names).2 = true → Good rs names (pairsN rs f names).1 := by
  intro f
  induction f with
  | zero =>
    intro names hf h
    unfold pairsN at h ⊢
    split at h
    · rename_i h0
      rw [if_pos h0]
      obtain rfl : names = [] := List.length_eq_zero_iff.1 h0
      exact ⟨by simp [flatNames], fun p hp => by cases hp⟩
    · simp at h
  | succ f ih =>
    intro names hf h
    by_cases h0 : names.length = 0
    · obtain rfl : names = [] := List.length_eq_zero_iff.1 h0
      rw [pairsN_nil]
      exact ⟨by simp [flatNames], fun p hp => by cases hp⟩
    · rw [pairsN_succ (by omega)] at h ⊢
      exact tryFrom_good ih hf _ _ (by omega) (by omega) h
/-- A round: everybody once; no pair has played; a bye stands at the end alone. -/
def GoodRound (rs : List Res) (names : List ByteArray) (ps : List Pai) : Prop :=
  (flatNames ps).Perm names ∧ (∀ p ∈ ps, played rs p.a p.b = false) ∧ ∀ i (h : i < ps.length), ps[i].b.toList.isEmpty = true → i + 1 = ps.length
theorem good_round {rs : List Res} {names : List ByteArray} {ps : List Pai} (h : Good rs names ps) : GoodRound rs names ps :=
  ⟨h.1, fun p hp => (h.2 p hp).1, fun i hi he => by rw [(h.2 _ (List.getElem_mem hi)).2] at he; cases he⟩
theorem oddFrom_good {rs : List Res} {names : List ByteArray} (hf : Full names) : ∀ k, k ≤ names.length → (oddFrom rs names k).2 = true → GoodRound rs names (oddFrom rs names k).1 := by
  intro k
  induction k with
  | zero => intro _ h; simp [oddFrom] at h
  | succ k ih =>
    intro hk
    have hkl : k < names.length := by omega
    unfold oddFrom
    split
    · exact ih (by omega)
    · rename_i hp
      split
      · rename_i h2
        intro _
        rw [nm_getD hkl] at hp ⊢
        obtain ⟨g1, g2⟩ := pairsN_good rs 13 (dropAt names k) (dropAt_full hf) h2
        refine ⟨?_, ?_, ?_⟩
        · have e : flatNames ((pairsN rs 13 (dropAt names k)).1 ++ [⟨names[k], ⟨#[]⟩⟩]) = flatNames (pairsN rs 13 (dropAt names k)).1 ++ [names[k]] := by
            have : (⟨#[]⟩ : ByteArray).toList.isEmpty = true := ba_empty (by decide)
            simp [flatNames, pairNames, this]
          simp only
          rw [e]
          exact (g1.append_right _).trans (dropAt_perm hkl)
        · intro p hpm
          rcases List.mem_append.1 hpm with hpm | hpm
          · exact (g2 p hpm).1
          · rw [List.mem_singleton] at hpm
            subst hpm
            simpa using hp
        · intro i hi he
          simp only [List.length_append, List.length_cons, List.length_nil] at hi ⊢
          by_cases hl : i < (pairsN rs 13 (dropAt names k)).1.length
          · rw [List.getElem_append_left hl, (g2 _ (List.getElem_mem hl)).2] at he
            cases he
          · omega
      · exact ih (by omega)
theorem roundOf_good {rs : List Res} {names : List ByteArray} (hf : Full names) (h : (roundOf rs names).2 = 0) : GoodRound rs names (roundOf rs names).1 := by
  unfold roundOf at h ⊢
  split at h
  · rename_i h1
    rw [if_pos h1]
    split at h
    · rename_i h2
      rw [if_pos h2]
      exact good_round (pairsN_good rs 13 names hf h2)
    · simp at h
  · rename_i h1
    rw [if_neg h1]
    split at h
    · rename_i h2
      rw [if_pos h2]
      exact oddFrom_good hf _ (Nat.le_refl _) h2
    · simp at h
theorem names_perm (ms : List Mem) (rs : List Res) : (namesOf ms rs).Perm (ms.map (·.name)) := by
  have := (table_perm ms rs).map (·.name)
  simpa [namesOf, Function.comp_def, lineOf_name] using this
theorem names_full {ms : List Mem} (rs : List Res) (hc : clubOk ms = true) : Full (namesOf ms rs) := by
  intro x hx
  obtain ⟨m, hm, rfl⟩ := List.mem_map.1 ((names_perm ms rs).mem_iff.1 hx)
  obtain ⟨i, hi, rfl⟩ := List.getElem_of_mem hm
  exact name_ne_empty hc hi
theorem names_apart {ms : List Mem} (rs : List Res) (hc : clubOk ms = true) : (namesOf ms rs).Pairwise (fun a b => ¬ a.toList = b.toList) := by
  refine ((names_perm ms rs).pairwise_iff (fun h e => h e.symm)).2 ?_
  rw [List.pairwise_map, List.pairwise_iff_getElem]
  intro i j hi hj hij e
  have := name_inj hc hi hj e
  omega
/-- What the statement asks of a round, place by place. -/
theorem round_law {ms : List Mem} {rs : List Res} (h : (pairRound ms rs).2 = 0) :
    (∀ i (hi : i < (pairRound ms rs).1.length), played rs (pairRound ms rs).1[i].a (pairRound ms rs).1[i].b = false ∧ hasB (flatNames ((pairRound ms rs).1.take i)) (pairRound ms rs).1[i].a = false ∧
      hasB (flatNames ((pairRound ms rs).1.take i)) (pairRound ms rs).1[i].b = false ∧ ((pairRound ms rs).1[i].b.toList.isEmpty = true → i + 1 = (pairRound ms rs).1.length)) ∧ (flatNames (pairRound ms rs).1).length = ms.length := by
  by_cases hcode : codeOf ms rs = 0
  · obtain ⟨hc, _⟩ := code_zero hcode
    rw [pairRound_ok hcode] at h ⊢
    have hf := names_full rs hc
    obtain ⟨g1, g2, g3⟩ := roundOf_good hf h
    have hap := (g1.pairwise_iff (R := fun a b : ByteArray => ¬ a.toList = b.toList) (fun h e => h e.symm)).2 (names_apart rs hc)
    generalize hps : (roundOf rs (namesOf ms rs)).1 = ps at *
    refine ⟨fun i hi => ?_, by rw [g1.length_eq, namesOf_len]⟩
    have hfull : Full (flatNames ps) := fun x hx => hf x (g1.mem_iff.1 hx)
    have es : flatNames ps = flatNames (ps.take i) ++ (pairNames ps[i] ++ flatNames (ps.drop (i + 1))) := by
      have e1 : ps = ps.take i ++ ps[i] :: ps.drop (i + 1) := by rw [← List.drop_eq_getElem_cons hi, List.take_append_drop]
      have e2 := congrArg flatNames e1
      rw [e2]
      show (List.take i ps ++ ps[i] :: List.drop (i + 1) ps).flatMap pairNames = _
      rw [List.flatMap_append, List.flatMap_cons]
      rfl
    rw [es] at hap hfull
    have hp := (List.pairwise_append.1 hap).2.2
    refine ⟨g2 _ (List.getElem_mem hi), hasB_false.2 fun x hx => hp x hx _ (by unfold pairNames; split <;> simp), hasB_false.2 fun x hx => ?_, g3 i hi⟩
    cases hb : ps[i].b.toList.isEmpty with
    | true =>
      intro e
      have := hfull x (by simp [hx])
      rw [e, hb] at this
      cases this
    | false => exact hp x hx _ (by simp [pairNames, hb])
  · rw [pairRound_bad hcode] at h
    exact absurd h hcode
end Go.Proofs.Ytpodkgfapbcmlaa
