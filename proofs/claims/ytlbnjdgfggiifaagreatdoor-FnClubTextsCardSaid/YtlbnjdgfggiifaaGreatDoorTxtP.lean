/- Plain lemmas: the texts of results and of clubs, and how they are read back. No program in sight. -/
import Derived.Test.YtlbnjdgfggiifaaGreatDoorRes
import Derived.Test.YtlbnjdgfggiifaaGreatDoorByt
import Derived.Test.YtlbnjdgfggiifaaGreatDoorDecP
import Derived.Test.YtlbnjdgfggiifaaGreatDoorSplP
namespace Go.Proofs.YtlbnjdgfggiifaaGreatDoor
open Go.Lib

theorem emp_empty : (⟨#[]⟩ : ByteArray).toList.isEmpty = true := by rw [ByteArray.toList_eq]; rfl
def bye : List UInt8 := [98, 121, 101]
/-- the text of a valid result -/
def resultL (r : Res) : List UInt8 :=
  if r.b.toList.isEmpty = true then r.a.data.toList ++ 32 :: bye
  else r.a.data.toList ++ 32 :: (itoa r.sa ++ 32 :: (r.b.data.toList ++ 32 :: itoa r.sb))
def resultText (r : Res) : ByteArray := if resOk r = true then mkB (resultL r) else ⟨#[]⟩
/-- what the program takes for the result -/
def implRes (l : List UInt8) : Res := match splitL 32 l with
  | [a, x, b, y] => ⟨mkB a, mkB b, (readDec x).getD 0, (readDec y).getD 0⟩
  | a :: _ => ⟨mkB a, ⟨#[]⟩, 0, 0⟩
  | [] => ⟨⟨#[]⟩, ⟨#[]⟩, 0, 0⟩
def readRes (l : List UInt8) : Option Res := if resOk (implRes l) = true ∧ resultL (implRes l) = l then some (implRes l) else none
def okRes (r : Res) : Option Res := if resOk r = true then some r else none
def specRes (l : List UInt8) : Option Res := match splitL 32 l with
  | [a, x] => if x = bye then okRes ⟨mkB a, ⟨#[]⟩, 0, 0⟩ else none
  | [a, x, b, y] => if b = [] then none else match specNum x, specNum y with
    | some m, some n => okRes ⟨mkB a, mkB b, m, n⟩
    | _, _ => none
  | _ => none
theorem name_blank {l : List UInt8} (h : isNameL l = true) {c : UInt8} (hc : nameCh c = false) : c ∉ l := by
  intro hm
  simp only [isNameL, Bool.and_eq_true, List.all_eq_true] at h
  have := h.2 c hm
  rw [hc] at this
  cases this
theorem itoa_chars (n : Int) : ∀ c ∈ itoa n, c = 45 ∨ 48 ≤ c.toNat ∧ c.toNat ≤ 57 := by
  intro c hc
  unfold itoa at hc
  split at hc
  · rcases List.mem_cons.1 hc with h | h
    · exact .inl h
    · exact .inr (decDigits_digit _ _ h)
  · exact .inr (decDigits_digit _ _ hc)
theorem itoa_blank (n : Int) {c : UInt8} (h45 : c ≠ 45) (hd : ¬ (48 ≤ c.toNat ∧ c.toNat ≤ 57)) : c ∉ itoa n := fun hm => (itoa_chars n c hm).elim h45 hd
theorem digits_le {u k : Nat} (hk : 1 ≤ k) (h : u < 10 ^ k) : nDigits u ≤ k := by
  induction k generalizing u with
  | zero => omega
  | succ k ih =>
    by_cases h10 : u < 10
    · rw [nDigits_small h10]; omega
    · rw [nDigits_big h10]
      by_cases hk0 : k = 0
      · subst hk0; simp at h; omega
      · have := ih (u := u / 10) (by omega) (by rw [Nat.pow_succ] at h; omega)
        omega
theorem itoa_back {n : Int} (h0 : -1000000 ≤ n) (h1 : n ≤ 1000000) : specNum (itoa n) = some n := by
  have h := digits_le (u := n.natAbs) (k := 7) (by omega) (by have : (10 : Nat) ^ 7 = 10000000 := rfl; omega)
  exact specNum_itoa n (by omega)
theorem res_bye {r : Res} (h : resOk r = true) (hb : r.b.toList.isEmpty = true) : r = ⟨mkB r.a.data.toList, ⟨#[]⟩, 0, 0⟩ ∧ isNameL r.a.data.toList = true := by
  rw [resOk_bye hb] at h
  simp only [Bool.and_eq_true, beq_iff_eq] at h
  obtain ⟨⟨h1, h2⟩, h3⟩ := h
  have e : r.b = ⟨#[]⟩ := by
    have h4 := List.isEmpty_iff.1 hb
    rw [ByteArray.toList_eq] at h4
    rw [← mkB_of r.b, h4]
    rfl
  obtain ⟨ra, rb, x, y⟩ := r
  simp only at e h2 h3 ⊢
  subst e h2 h3
  rw [mkB_of]
  exact ⟨rfl, h1⟩
theorem res_game {r : Res} (h : resOk r = true) (hb : r.b.toList.isEmpty = false) : isNameL r.a.data.toList = true ∧ isNameL r.b.data.toList = true ∧ (-2000 ≤ r.sa ∧ r.sa ≤ 2000) ∧ -2000 ≤ r.sb ∧ r.sb ≤ 2000 := by
  rw [resOk_game hb] at h
  simp only [Bool.and_eq_true, withinB, decide_eq_true_eq] at h
  exact ⟨h.1.1.1.1, h.1.1.1.2, h.1.2, h.2⟩
theorem split_bye {r : Res} (h : resOk r = true) (hb : r.b.toList.isEmpty = true) : splitL 32 (resultL r) = [r.a.data.toList, bye] := by
  unfold resultL
  rw [if_pos hb, splitL_app _ (name_blank (res_bye h hb).2 (by decide)), splitL_none (by decide)]
theorem split_game {r : Res} (h : resOk r = true) (hb : r.b.toList.isEmpty = false) : splitL 32 (resultL r) = [r.a.data.toList, itoa r.sa, r.b.data.toList, itoa r.sb] := by
  obtain ⟨h1, h2, _⟩ := res_game h hb
  unfold resultL
  rw [if_neg (by rw [hb]; exact Bool.false_ne_true), splitL_app _ (name_blank h1 (by decide)), splitL_app _ (itoa_blank _ (by decide) (by decide)), splitL_app _ (name_blank h2 (by decide)), splitL_none (itoa_blank _ (by decide) (by decide))]
theorem nonempty_of {b : ByteArray} (h : b.toList.isEmpty = false) : b.data.toList ≠ [] := by
  intro e
  rw [ByteArray.toList_eq, e] at h
  cases h
theorem readRes_iff (l : List UInt8) (r : Res) : readRes l = some r ↔ resOk r = true ∧ resultL r = l := by
  constructor
  · intro h
    unfold readRes at h
    split at h
    · rename_i hh
      simp only [Option.some.injEq] at h
      rw [← h]
      exact hh
    · cases h
  · rintro ⟨h, rfl⟩
    have e : implRes (resultL r) = r := by
      cases hb : r.b.toList.isEmpty with
      | true =>
        unfold implRes
        rw [split_bye h hb]
        exact (res_bye h hb).1.symm
      | false =>
        obtain ⟨_, _, ⟨g1, g2⟩, g3, g4⟩ := res_game h hb
        unfold implRes
        rw [split_game h hb]
        simp only [mkB_of, readDec_eq, itoa_back (show -1000000 ≤ r.sa by omega) (by omega), itoa_back (show -1000000 ≤ r.sb by omega) (by omega), Option.getD_some]
    unfold readRes
    rw [e, if_pos ⟨h, rfl⟩]
theorem okRes_some {r r' : Res} (h : okRes r = some r') : resOk r = true ∧ r = r' := by
  unfold okRes at h
  split at h
  · rename_i hh
    simp only [Option.some.injEq] at h
    exact ⟨hh, h⟩
  · cases h
theorem specRes_iff (l : List UInt8) (r : Res) : specRes l = some r ↔ resOk r = true ∧ resultL r = l := by
  constructor
  · intro h
    have hj := join_split 32 l
    unfold specRes at h
    split at h
    · rename_i a x hs
      rw [hs] at hj
      split at h
      · rename_i hx
        obtain ⟨g1, rfl⟩ := okRes_some h
        refine ⟨g1, ?_⟩
        rw [← hj, hx]
        unfold resultL
        simp only [emp_empty, if_true, mkB_data]
        rfl
      · cases h
    · rename_i a x b y hs
      rw [hs] at hj
      split at h
      · cases h
      · rename_i hb
        split at h
        · rename_i m n hm hn
          obtain ⟨g1, rfl⟩ := okRes_some h
          refine ⟨g1, ?_⟩
          rw [← hj, ← specNum_some hm, ← specNum_some hn]
          unfold resultL
          have hbe : (mkB b).toList.isEmpty = false := by
            rw [mkB_list]
            cases b with
            | nil => exact absurd rfl hb
            | cons c b => rfl
          rw [if_neg (by rw [hbe]; exact Bool.false_ne_true), mkB_data, mkB_data]
          rfl
        · cases h
    · cases h
  · rintro ⟨h, rfl⟩
    cases hb : r.b.toList.isEmpty with
    | true =>
      unfold specRes
      rw [split_bye h hb]
      simp only [if_true]
      rw [← (res_bye h hb).1]
      exact if_pos h
    | false =>
      obtain ⟨_, _, ⟨g1, g2⟩, g3, g4⟩ := res_game h hb
      unfold specRes
      rw [split_game h hb]
      simp only [mkB_of, itoa_back (show -1000000 ≤ r.sa by omega) (by omega), itoa_back (show -1000000 ≤ r.sb by omega) (by omega)]
      rw [if_neg (nonempty_of hb)]
      exact if_pos h
theorem readRes_eq (l : List UInt8) : readRes l = specRes l := by
  cases h : readRes l with
  | some r => exact ((specRes_iff l r).2 ((readRes_iff l r).1 h)).symm
  | none =>
    cases h2 : specRes l with
    | none => rfl
    | some r => rw [(readRes_iff l r).2 ((specRes_iff l r).1 h2)] at h; cases h
end Go.Proofs.YtlbnjdgfggiifaaGreatDoor
