/- Plain definitions and lemmas: the order of plays, the order of scored plays, the best of a list. No condition. -/
import Derived.Test.YtofcampipllegaaGreatDoorTx
import Derived.Test.YtofcampipllegaaGreatDoorLex
namespace Go.Proofs.YtofcampipllegaaGreatDoor
open Go.ChangeShapes Go.WideShapes Go.ChangeAt Go.RowKit Go.Sort

def sgnI (a b : Int) : Int := if a < b then -1 else if b < a then 1 else 0
def sgnT (a b : ByteArray) : Int := if Op.bytesLess a.toList b.toList = true then -1 else if Op.bytesLess b.toList a.toList = true then 1 else 0
/-- the order of plays -/
def Ply.cmp (a b : Ply) : Int := if a.down = b.down then (if a.row = b.row then (if a.col = b.col then sgnT a.word b.word else sgnI a.col b.col) else sgnI a.row b.row) else if b.down = true then -1 else 1
/-- the order of scored plays -/
def mvCmp (s t : Int) (a b : Ply) : Int := if t < s then -1 else if s < t then 1 else a.cmp b
def dn (a : Ply) : Int := if a.down = true then 1 else 0
/-- the order, written out -/
def mvLt (s t : Int) (a b : Ply) : Prop := t < s ∨ (s = t ∧ (dn a < dn b ∨ (dn a = dn b ∧ (a.row < b.row ∨ (a.row = b.row ∧ (a.col < b.col ∨ (a.col = b.col ∧ a.word.toList < b.word.toList)))))))
theorem sgnT_neg {a b : ByteArray} : sgnT a b < 0 ↔ a.toList < b.toList := by
  unfold sgnT
  rw [bytesLess_eq, bytesLess_eq]
  by_cases h : a.toList < b.toList
  · simp [h]
  · by_cases h2 : b.toList < a.toList <;> simp [h, h2]
theorem sgnI_neg {a b : Int} : sgnI a b < 0 ↔ a < b := by
  unfold sgnI
  split
  · simp [*]
  · split <;> simp_all
theorem dn_eq {a b : Ply} : dn a = dn b ↔ a.down = b.down := by
  unfold dn
  cases a.down <;> cases b.down <;> decide
theorem dn_lt {a b : Ply} : dn a < dn b ↔ (a.down = false ∧ b.down = true) := by
  unfold dn
  cases a.down <;> cases b.down <;> decide
theorem cmp_neg {a b : Ply} : a.cmp b < 0 ↔ (dn a < dn b ∨ (dn a = dn b ∧ (a.row < b.row ∨ (a.row = b.row ∧ (a.col < b.col ∨ (a.col = b.col ∧ a.word.toList < b.word.toList)))))) := by
  unfold Ply.cmp
  rw [dn_lt, dn_eq]
  by_cases h1 : a.down = b.down
  · rw [if_pos h1]
    have h0 : ¬ (a.down = false ∧ b.down = true) := by rw [h1]; cases b.down <;> simp
    by_cases h2 : a.row = b.row
    · rw [if_pos h2]
      by_cases h3 : a.col = b.col
      · rw [if_pos h3, sgnT_neg]
        constructor
        · intro h; exact .inr ⟨h1, .inr ⟨h2, .inr ⟨h3, h⟩⟩⟩
        · rintro (h | ⟨_, h | ⟨_, h | ⟨_, h⟩⟩⟩)
          · exact absurd h h0
          · omega
          · omega
          · exact h
      · rw [if_neg h3, sgnI_neg]
        constructor
        · intro h; exact .inr ⟨h1, .inr ⟨h2, .inl h⟩⟩
        · rintro (h | ⟨_, h | ⟨_, h | ⟨h, _⟩⟩⟩)
          · exact absurd h h0
          · omega
          · exact h
          · exact absurd h h3
    · rw [if_neg h2, sgnI_neg]
      constructor
      · intro h; exact .inr ⟨h1, .inl h⟩
      · rintro (h | ⟨_, h | ⟨h, _⟩⟩)
        · exact absurd h h0
        · exact h
        · exact absurd h h2
  · rw [if_neg h1]
    constructor
    · intro h
      refine .inl ?_
      cases ha : a.down <;> cases hb : b.down <;> simp_all
    · rintro (⟨_, h⟩ | ⟨h, _⟩)
      · rw [if_pos h]; decide
      · exact absurd h h1
theorem mvCmp_neg {s t : Int} {a b : Ply} : mvCmp s t a b < 0 ↔ mvLt s t a b := by
  unfold mvCmp mvLt
  by_cases h1 : t < s
  · rw [if_pos h1]
    constructor
    · intro _; exact .inl h1
    · intro _; decide
  · rw [if_neg h1]
    by_cases h2 : s < t
    · rw [if_pos h2]
      constructor
      · intro h; exact absurd h (by decide)
      · rintro (h | ⟨h, _⟩) <;> omega
    · rw [if_neg h2, cmp_neg]
      constructor
      · intro h; exact .inr ⟨by omega, h⟩
      · rintro (h | ⟨_, h⟩)
        · omega
        · exact h
theorem mvLt_irrefl {s : Int} {a : Ply} : ¬ mvLt s s a a := by
  unfold mvLt
  have := List.lt_irrefl a.word.toList
  rintro (h | ⟨_, h | ⟨_, h | ⟨_, h | ⟨_, h⟩⟩⟩⟩)
  · omega
  · omega
  · omega
  · omega
  · exact this h
theorem mvLt_trans {s t u : Int} {a b c : Ply} (h1 : mvLt s t a b) (h2 : mvLt t u b c) : mvLt s u a c := by
  unfold mvLt at *
  rcases h1 with h1 | ⟨e1, h1⟩
  · rcases h2 with h2 | ⟨e2, _⟩ <;> exact .inl (by omega)
  · rcases h2 with h2 | ⟨e2, h2⟩
    · exact .inl (by omega)
    · refine .inr ⟨by omega, ?_⟩
      rcases h1 with h1 | ⟨d1, h1⟩
      · rcases h2 with h2 | ⟨d2, _⟩ <;> exact .inl (by omega)
      · rcases h2 with h2 | ⟨d2, h2⟩
        · exact .inl (by omega)
        · refine .inr ⟨by omega, ?_⟩
          rcases h1 with h1 | ⟨r1, h1⟩
          · rcases h2 with h2 | ⟨r2, _⟩ <;> exact .inl (by omega)
          · rcases h2 with h2 | ⟨r2, h2⟩
            · exact .inl (by omega)
            · refine .inr ⟨by omega, ?_⟩
              rcases h1 with h1 | ⟨c1, h1⟩
              · rcases h2 with h2 | ⟨c2, _⟩ <;> exact .inl (by omega)
              · rcases h2 with h2 | ⟨c2, h2⟩
                · exact .inl (by omega)
                · exact .inr ⟨by omega, List.lt_trans h1 h2⟩
/-- two scored plays that neither goes ahead of the other are alike in order -/
theorem mvLt_neg {s t u : Int} {a b c : Ply} (h1 : mvLt s u a c) (h2 : ¬ mvLt t u b c) : mvLt s t a b := by
  unfold mvLt at *
  rcases h1 with h1 | ⟨e1, h1⟩
  · by_cases h : t < s
    · exact .inl h
    · exact absurd (Or.inl (by omega)) h2
  · by_cases h : t < s
    · exact .inl h
    by_cases h' : u < t
    · exact absurd (Or.inl h') h2
    have e2 : t = u := by omega
    refine .inr ⟨by omega, ?_⟩
    rw [e2] at h2
    have h3 := fun k => h2 (.inr ⟨rfl, k⟩)
    clear h2
    rcases h1 with h1 | ⟨d1, h1⟩
    · by_cases hd : dn b < dn c
      · exact absurd (Or.inl hd) h3
      · exact .inl (by omega)
    · by_cases hd : dn b < dn c
      · exact absurd (Or.inl hd) h3
      by_cases hd2 : dn c < dn b
      · exact .inl (by omega)
      refine .inr ⟨by omega, ?_⟩
      have h4 := fun k => h3 (.inr ⟨by omega, k⟩)
      clear h3
      rcases h1 with h1 | ⟨r1, h1⟩
      · by_cases hr : b.row < c.row
        · exact absurd (Or.inl hr) h4
        · exact .inl (by omega)
      · by_cases hr : b.row < c.row
        · exact absurd (Or.inl hr) h4
        by_cases hr2 : c.row < b.row
        · exact .inl (by omega)
        refine .inr ⟨by omega, ?_⟩
        have h5 := fun k => h4 (.inr ⟨by omega, k⟩)
        clear h4
        rcases h1 with h1 | ⟨c1, h1⟩
        · by_cases hc : b.col < c.col
          · exact absurd (Or.inl hc) h5
          · exact .inl (by omega)
        · by_cases hc : b.col < c.col
          · exact absurd (Or.inl hc) h5
          by_cases hc2 : c.col < b.col
          · exact .inl (by omega)
          refine .inr ⟨by omega, ?_⟩
          have h6 := fun k => h5 (.inr ⟨by omega, k⟩)
          clear h5
          exact Decidable.byContradiction fun hn => List.not_lt.2 (List.le_trans (List.not_lt.1 h6) (List.not_lt.1 hn)) h1
/-- the best of the first k + 1 -/
def bestK (sc : Nat → Int) (pl : Nat → Ply) : Nat → Nat
  | 0 => 0
  | k + 1 => if mvCmp (sc (k + 1)) (sc (bestK sc pl k)) (pl (k + 1)) (pl (bestK sc pl k)) < 0 then k + 1 else bestK sc pl k
theorem bestK_le (sc : Nat → Int) (pl : Nat → Ply) : ∀ k, bestK sc pl k ≤ k
  | 0 => Nat.le_refl 0
  | k + 1 => by
    have := bestK_le sc pl k
    unfold bestK
    split <;> omega
theorem bestK_top (sc : Nat → Int) (pl : Nat → Ply) : ∀ k j, j ≤ k → ¬ mvLt (sc j) (sc (bestK sc pl k)) (pl j) (pl (bestK sc pl k))
  | 0, j, h => by
    obtain rfl : j = 0 := by omega
    exact mvLt_irrefl
  | k + 1, j, h => by
    have ih := bestK_top sc pl k
    unfold bestK
    split
    · rename_i hc
      rw [mvCmp_neg] at hc
      by_cases e : j = k + 1
      · subst e; exact mvLt_irrefl
      · intro h2
        exact ih j (by omega) (mvLt_trans h2 hc)
    · rename_i hc
      rw [mvCmp_neg] at hc
      by_cases e : j = k + 1
      · subst e; exact hc
      · exact ih j (by omega)
/-- none ahead of the best is its like -/
theorem bestK_first (sc : Nat → Int) (pl : Nat → Ply) : ∀ k j, j < bestK sc pl k → mvLt (sc (bestK sc pl k)) (sc j) (pl (bestK sc pl k)) (pl j)
  | 0, j, h => absurd h (Nat.not_lt_zero _)
  | k + 1, j, h => by
    have ih := bestK_first sc pl k
    have it := bestK_top sc pl k
    unfold bestK at h ⊢
    split at h
    · rename_i hc
      rw [if_pos hc]
      rw [mvCmp_neg] at hc
      exact mvLt_neg hc (it j (by omega))
    · rename_i hc
      rw [if_neg hc]
      exact ih j h
theorem bestK_new (sc : Nat → Int) (pl : Nat → Ply) {k j : Nat} (h : j < bestK sc pl k) : ¬ (sc j = sc (bestK sc pl k) ∧ pl j = pl (bestK sc pl k)) := by
  rintro ⟨h1, h2⟩
  have := bestK_first sc pl k j h
  rw [h1, h2] at this
  exact mvLt_irrefl this
end Go.Proofs.YtofcampipllegaaGreatDoor
