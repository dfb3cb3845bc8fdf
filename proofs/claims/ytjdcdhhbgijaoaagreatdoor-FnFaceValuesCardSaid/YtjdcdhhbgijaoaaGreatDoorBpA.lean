/- Plain definitions and lemmas: the order of plays, the order of scored plays, the best of a · Contracts: the comparisons of plays and of scored plays: the program and the reference. No -/
import Derived.Test.YtjdcdhhbgijaoaaGreatDoorLex
import Derived.StillTailTactics
namespace Go.Proofs.YtjdcdhhbgijaoaaGreatDoor
open Go.ChangeShapes Go.WideShapes Go.ChangeAt Go.RowKit Go.Sort

def sgnI (a b : Int) : Int := if a < b then -1 else if b < a then 1 else 0
def sgnT (a b : ByteArray) : Int := if Op.bytesLess a.toList b.toList = true then -1 else if Op.bytesLess b.toList a.toList = true then 1 else 0
/-- the order of plays -/
def Ply.cmp (a b : Ply) : Int := if a.down = b.down then (if a.row = b.row then (if a.col = b.col then sgnT a.word b.word else sgnI a.col b.col) else sgnI a.row b.row) else if b.down = true then -1 else 1
/-- the order of scored plays -/
def mvCmp (s t : Int) (a b : Ply) : Int := if t < s then -1 else if s < t then 1 else a.cmp b
def dn (a : Ply) : Int := if a.down = true then 1 else 0
/-- the order, written out -/
def mvLt (s t : Int) (a b : Ply) : Prop := t < s ∨ (s = t ∧ (dn a < dn b ∨ (dn a = dn b ∧ (a.row < b.row ∨ (a.row = b.row ∧ (a.col < b.col ∨ (a.col = b.col ∧ a.word.toList < b.word.toList)))))))
theorem sgnT_neg {a b : ByteArray} : sgnT a b < 0 ↔ a.toList < b.toList := by
  unfold sgnT
  rw [bytesLess_eq, bytesLess_eq]
  by_cases h : a.toList < b.toList
  · simp [h]
  · by_cases h2 : b.toList < a.toList <;> simp [h, h2]
theorem sgnI_neg {a b : Int} : sgnI a b < 0 ↔ a < b := by
  unfold sgnI
  split
  · simp [*]
  · split <;> simp_all
theorem dn_eq {a b : Ply} : dn a = dn b ↔ a.down = b.down := by
  unfold dn
  cases a.down <;> cases b.down <;> decide
theorem dn_lt {a b : Ply} : dn a < dn b ↔ (a.down = false ∧ b.down = true) := by
  unfold dn
  cases a.down <;> cases b.down <;> decide
theorem cmp_neg {a b : Ply} : a.cmp b < 0 ↔ (dn a < dn b ∨ (dn a = dn b ∧ (a.row < b.row ∨ (a.row = b.row ∧ (a.col < b.col ∨ (a.col = b.col ∧ a.word.toList < b.word.toList)))))) := by
  unfold Ply.cmp
  rw [dn_lt, dn_eq]
  by_cases h1 : a.down = b.down
  · rw [if_pos h1]
    have h0 : ¬ (a.down = false ∧ b.down = true) := by rw [h1]; cases b.down <;> simp
    by_cases h2 : a.row = b.row
    · rw [if_pos h2]
      by_cases h3 : a.col = b.col
      · rw [if_pos h3, sgnT_neg]
        constructor
        · intro h; exact .inr ⟨h1, .inr ⟨h2, .inr ⟨h3, h⟩⟩⟩
        · rintro (h | ⟨_, h | ⟨_, h | ⟨_, h⟩⟩⟩)
          · exact absurd h h0
          · omega
          · omega
          · exact h
      · rw [if_neg h3, sgnI_neg]
        constructor
        · intro h; exact .inr ⟨h1, .inr ⟨h2, .inl h⟩⟩
        · rintro (h | ⟨_, h | ⟨_, h | ⟨h, _⟩⟩⟩)
          · exact absurd h h0
          · omega
          · exact h
          · exact absurd h h3
    · rw [if_neg h2, sgnI_neg]
      constructor
      · intro h; exact .inr ⟨h1, .inl h⟩
      · rintro (h | ⟨_, h | ⟨h, _⟩⟩)
        · exact absurd h h0
        · exact h
        · exact absurd h h2
  · rw [if_neg h1]
    constructor
    · intro h
      refine .inl ?_
      cases ha : a.down <;> cases hb : b.down <;> simp_all
    · rintro (⟨_, h⟩ | ⟨h, _⟩)
      · rw [if_pos h]; decide
      · exact absurd h h1
theorem mvCmp_neg {s t : Int} {a b : Ply} : mvCmp s t a b < 0 ↔ mvLt s t a b := by
  unfold mvCmp mvLt
  by_cases h1 : t < s
  · rw [if_pos h1]
    constructor
    · intro _; exact .inl h1
    · intro _; decide
  · rw [if_neg h1]
    by_cases h2 : s < t
    · rw [if_pos h2]
      constructor
      · intro h; exact absurd h (by decide)
      · rintro (h | ⟨h, _⟩) <;> omega
    · rw [if_neg h2, cmp_neg]
      constructor
      · intro h; exact .inr ⟨by omega, h⟩
      · rintro (h | ⟨_, h⟩)
        · omega
        · exact h
theorem mvLt_irrefl {s : Int} {a : Ply} : ¬ mvLt s s a a := by
  unfold mvLt
  have := List.lt_irrefl a.word.toList
  rintro (h | ⟨_, h | ⟨_, h | ⟨_, h | ⟨_, h⟩⟩⟩⟩)
  · omega
  · omega
  · omega
  · omega
  · exact this h
theorem mvLt_trans {s t u : Int} {a b c : Ply} (h1 : mvLt s t a b) (h2 : mvLt t u b c) : mvLt s u a c := by
  unfold mvLt at *
  rcases h1 with h1 | ⟨e1, h1⟩
  · rcases h2 with h2 | ⟨e2, _⟩ <;> exact .inl (by omega)
  · rcases h2 with h2 | ⟨e2, h2⟩
    · exact .inl (by omega)
    · refine .inr ⟨by omega, ?_⟩
      rcases h1 with h1 | ⟨d1, h1⟩
      · rcases h2 with h2 | ⟨d2, _⟩ <;> exact .inl (by omega)
      · rcases h2 with h2 | ⟨d2, h2⟩
        · exact .inl (by omega)
        · refine .inr ⟨by omega, ?_⟩
          rcases h1 with h1 | ⟨r1, h1⟩
          · rcases h2 with h2 | ⟨r2, _⟩ <;> exact .inl (by omega)
          · rcases h2 with h2 | ⟨r2, h2⟩
            · exact .inl (by omega)
            · refine .inr ⟨by omega, ?_⟩
              rcases h1 with h1 | ⟨c1, h1⟩
              · rcases h2 with h2 | ⟨c2, _⟩ <;> exact .inl (by omega)
              · rcases h2 with h2 | ⟨c2, h2⟩
                · exact .inl (by omega)
                · exact .inr ⟨by omega, List.lt_trans h1 h2⟩
/-- two scored plays that neither goes ahead of the other are alike in order -/
theorem mvLt_neg {s t u : Int} {a b c : Ply} (h1 : mvLt s u a c) (h2 : ¬ mvLt t u b c) : mvLt s t a b := by
  unfold mvLt at *
  rcases h1 with h1 | ⟨e1, h1⟩
  · by_cases h : t < s
    · exact .inl h
    · exact absurd (Or.inl (by omega)) h2
  · by_cases h : t < s
    · exact .inl h
    by_cases h' : u < t
    · exact absurd (Or.inl h') h2
    have e2 : t = u := by omega
    refine .inr ⟨by omega, ?_⟩
    rw [e2] at h2
    have h3 := fun k => h2 (.inr ⟨rfl, k⟩)
    clear h2
    rcases h1 with h1 | ⟨d1, h1⟩
    · by_cases hd : dn b < dn c
      · exact absurd (Or.inl hd) h3
      · exact .inl (by omega)
    · by_cases hd : dn b < dn c
      · exact absurd (Or.inl hd) h3
      by_cases hd2 : dn c < dn b
      · exact .inl (by omega)
      refine .inr ⟨by omega, ?_⟩
      have h4 := fun k => h3 (.inr ⟨by omega, k⟩)
      clear h3
      rcases h1 with h1 | ⟨r1, h1⟩
      · by_cases hr : b.row < c.row
        · exact absurd (Or.inl hr) h4
        · exact .inl (by omega)
      · by_cases hr : b.row < c.row
        · exact absurd (Or.inl hr) h4
        by_cases hr2 : c.row < b.row
        · exact .inl (by omega)
        refine .inr ⟨by omega, ?_⟩
        have h5 := fun k => h4 (.inr ⟨by omega, k⟩)
        clear h4
        rcases h1 with h1 | ⟨c1, h1⟩
        · by_cases hc : b.col < c.col
          · exact absurd (Or.inl hc) h5
          · exact .inl (by omega)
        · by_cases hc : b.col < c.col
          · exact absurd (Or.inl hc) h5
          by_cases hc2 : c.col < b.col
          · exact .inl (by omega)
          refine .inr ⟨by omega, ?_⟩
          have h6 := fun k => h5 (.inr ⟨by omega, k⟩)
          clear h5
          exact Decidable.byContradiction fun hn => List.not_lt.2 (List.le_trans (List.not_lt.1 h6) (List.not_lt.1 hn)) h1
/-- the best of the first k + 1 -/
def bestK (sc : Nat → Int) (pl : Nat → Ply) : Nat → Nat
  | 0 => 0
  | k + 1 => if mvCmp (sc (k + 1)) (sc (bestK sc pl k)) (pl (k + 1)) (pl (bestK sc pl k)) < 0 then k + 1 else bestK sc pl k
theorem bestK_le (sc : Nat → Int) (pl : Nat → Ply) : ∀ k, bestK sc pl k ≤ k
  | 0 => Nat.le_refl 0
  | k + 1 => by
    have := bestK_le sc pl k
    unfold bestK
    split <;> omega
theorem bestK_top (sc : Nat → Int) (pl : Nat → Ply) : ∀ k j, j ≤ k → ¬ mvLt (sc j) (sc (bestK sc pl k)) (pl j) (pl (bestK sc pl k))
  | 0, j, h => by
    obtain rfl : j = 0 := by omega
    exact mvLt_irrefl
  | k + 1, j, h => by
    have ih := bestK_top sc pl k
    unfold bestK
    split
    · rename_i hc
      rw [mvCmp_neg] at hc
      by_cases e : j = k + 1
      · subst e; exact mvLt_irrefl
      · intro h2
        exact ih j (by omega) (mvLt_trans h2 hc)
    · rename_i hc
      rw [mvCmp_neg] at hc
      by_cases e : j = k + 1
      · subst e; exact hc
      · exact ih j (by omega)
/-- none ahead of the best is its like -/
theorem bestK_first (sc : Nat → Int) (pl : Nat → Ply) : ∀ k j, j < bestK sc pl k → mvLt (sc (bestK sc pl k)) (sc j) (pl (bestK sc pl k)) (pl j)
  | 0, j, h => absurd h (Nat.not_lt_zero _)
  | k + 1, j, h => by
    have ih := bestK_first sc pl k
    have it := bestK_top sc pl k
    unfold bestK at h ⊢
    split at h
    · rename_i hc
      rw [if_pos hc]
      rw [mvCmp_neg] at hc
      exact mvLt_neg hc (it j (by omega))
    · rename_i hc
      rw [if_neg hc]
      exact ih j h
theorem bestK_new (sc : Nat → Int) (pl : Nat → Ply) {k j : Nat} (h : j < bestK sc pl k) : ¬ (sc j = sc (bestK sc pl k) ∧ pl j = pl (bestK sc pl k)) := by
  rintro ⟨h1, h2⟩
  have := bestK_first sc pl k j h
  rw [h1, h2] at this
  exact mvLt_irrefl this
end Go.Proofs.YtjdcdhhbgijaoaaGreatDoor
namespace Go.Proofs.YtjdcdhhbgijaoaaGreatDoor
open Go.ChangeShapes Go.WideShapes Go.ChangeAt Go.RowKit Go.Sort

theorem text_cases (a b : ByteArray) : (Op.bytesLess a.toList b.toList = true ∧ sgnT a b = -1) ∨ (Op.bytesLess a.toList b.toList = false ∧ (a.toList == b.toList) = false ∧ sgnT a b = 1) ∨ (Op.bytesLess a.toList b.toList = false ∧ (a.toList == b.toList) = true ∧ sgnT a b = 0) := by
  unfold sgnT
  cases h1 : Op.bytesLess a.toList b.toList with
  | true => exact .inl ⟨rfl, by simp⟩
  | false =>
    cases h2 : Op.bytesLess b.toList a.toList with
    | true => exact .inr (.inl ⟨rfl, (less_no h2).2, by simp⟩)
    | false =>
      refine .inr (.inr ⟨rfl, ?_, by simp⟩)
      rw [bytesLess_eq, decide_eq_false_iff_not] at h1 h2
      rw [beq_iff_eq]
      exact List.le_antisymm (List.not_lt.1 h2) (List.not_lt.1 h1)
theorem cmpNaNI_any (x : Int) (w : World) : Calls Tryz.prog 214 #[.int .i64 x] w fun e w' => e = .returned (.bool false) ∧ w = w' := by
  go_enter Tryz.func214, Tryz.ntmps214
  go_wp2
  go_ret
  exact ⟨by simp, rfl⟩
theorem cmpNaNT_any (x : ByteArray) (w : World) : Calls Tryz.prog 215 #[.string x] w fun e w' => e = .returned (.bool false) ∧ w = w' := by
  go_enter Tryz.func215, Tryz.ntmps215
  go_wp2
  go_ret
  exact ⟨by simp, rfl⟩
set_option maxHeartbeats 1000000 in
theorem cmpInt_any (a b : Int) (w : World) : Calls Tryz.prog 134 #[.int .i64 a, .int .i64 b] w fun e w' => e = .returned (.int .i64 (sgnI a b)) ∧ w' = w := by
  have H : (a < b ∧ sgnI a b = -1) ∨ (¬ a < b ∧ b < a ∧ sgnI a b = 1) ∨ (¬ a < b ∧ ¬ b < a ∧ sgnI a b = 0) := by
    unfold sgnI
    by_cases h1 : a < b
    · exact .inl ⟨h1, if_pos h1⟩
    · by_cases h2 : b < a
      · exact .inr (.inl ⟨h1, h2, by rw [if_neg h1, if_pos h2]⟩)
      · exact .inr (.inr ⟨h1, h2, by rw [if_neg h1, if_neg h2]⟩)
  generalize sgnI a b = r at *
  go_enter Tryz.func134, Tryz.ntmps134
  go_wp2_with fail
  refine (cmpNaNI_any a _).mono ?_
  rintro e w' ⟨rfl, rfl⟩
  go_wp2_with fail
  refine (cmpNaNI_any b _).mono ?_
  rintro e w' ⟨rfl, rfl⟩
  rcases H with ⟨h1, rfl⟩ | ⟨h1, h2, rfl⟩ | ⟨h1, h2, rfl⟩
  · go_wp2
    go_ret
    exact ⟨rfl, rfl⟩
  · go_wp2
    go_ret
    exact ⟨rfl, rfl⟩
  · go_wp2
    go_ret
    exact ⟨rfl, rfl⟩
set_option maxHeartbeats 1000000 in
theorem cmpText_any (a b : ByteArray) (w : World) : Calls Tryz.prog 135 #[.string a, .string b] w fun e w' => e = .returned (.int .i64 (sgnT a b)) ∧ w' = w := by
  have H := text_cases a b
  generalize sgnT a b = r at *
  go_enter Tryz.func135, Tryz.ntmps135
  go_wp2_with fail
  refine (cmpNaNT_any a _).mono ?_
  rintro e w' ⟨rfl, rfl⟩
  go_wp2_with fail
  refine (cmpNaNT_any b _).mono ?_
  rintro e w' ⟨rfl, rfl⟩
  rcases H with ⟨h1, rfl⟩ | ⟨h1, h2, rfl⟩ | ⟨h1, h2, rfl⟩
  · go_wp2
    go_ret
    exact ⟨rfl, rfl⟩
  · go_wp2
    go_ret
    exact ⟨rfl, rfl⟩
  · go_wp2
    go_ret
    exact ⟨rfl, rfl⟩
theorem l12Sign_any (a b : Int) (w : World) : Calls Tryz.prog 202 #[.int .i64 a, .int .i64 b] w fun e w' => e = .returned (.int .i64 (sgnI a b)) ∧ w' = w := by
  have H : (a < b ∧ sgnI a b = -1) ∨ (¬ a < b ∧ b < a ∧ sgnI a b = 1) ∨ (¬ a < b ∧ ¬ b < a ∧ sgnI a b = 0) := by
    unfold sgnI
    by_cases h1 : a < b
    · exact .inl ⟨h1, if_pos h1⟩
    · by_cases h2 : b < a
      · exact .inr (.inl ⟨h1, h2, by rw [if_neg h1, if_pos h2]⟩)
      · exact .inr (.inr ⟨h1, h2, by rw [if_neg h1, if_neg h2]⟩)
  generalize sgnI a b = r at *
  rcases H with ⟨h1, rfl⟩ | ⟨h1, h2, rfl⟩ | ⟨h1, h2, rfl⟩
  all_goals
    go_enter Tryz.func202, Tryz.ntmps202
    go_wp2
    go_ret
    exact ⟨rfl, rfl⟩
/-- two plays lie in two variables -/
theorem cmp0 {a b : Ply} (h : a.down = false) (h2 : b.down = true) : a.cmp b = -1 := by unfold Ply.cmp; rw [h, h2]; rfl
theorem cmp1 {a b : Ply} (h : a.down = true) (h2 : b.down = false) : a.cmp b = 1 := by unfold Ply.cmp; rw [h, h2]; rfl
theorem cmp2 {a b : Ply} (h : a.down = b.down) (h2 : ¬ a.row = b.row) : a.cmp b = sgnI a.row b.row := by unfold Ply.cmp; rw [if_pos h, if_neg h2]
theorem cmp3 {a b : Ply} (h : a.down = b.down) (h2 : a.row = b.row) (h3 : ¬ a.col = b.col) : a.cmp b = sgnI a.col b.col := by unfold Ply.cmp; rw [if_pos h, if_pos h2, if_neg h3]
theorem cmp4 {a b : Ply} (h : a.down = b.down) (h2 : a.row = b.row) (h3 : a.col = b.col) : a.cmp b = sgnT a.word b.word := by unfold Ply.cmp; rw [if_pos h, if_pos h2, if_pos h3]
set_option maxRecDepth 100000 in
set_option maxHeartbeats 4000000 in
theorem l12Compare_any (a b : Ply) (w : World) :
    Calls Tryz.prog 114 #[.agg #[.int .i64 a.row, .int .i64 a.col, .bool a.down, .string a.word], .agg #[.int .i64 b.row, .int .i64 b.col, .bool b.down, .string b.word]] w fun e w' => e = .returned (.int .i64 (a.cmp b)) ∧ Below w.heap.size w w' := by
  obtain ⟨w2, hw2⟩ : ∃ w2, w2 = (w.alloc (.cells #[.int .i64 a.row, .int .i64 a.col, .bool a.down, .string a.word] 30)).alloc (.cells #[.int .i64 b.row, .int .i64 b.col, .bool b.down, .string b.word] 30) := ⟨_, rfl⟩
  have hb : Below w.heap.size w w2 := by rw [hw2]; exact ((Below.refl _ _).alloc (Nat.le_refl _) _).alloc (by simp) _
  have VA : Hid (VarAt w2 w.heap.size 30 [.int .i64 a.row, .int .i64 a.col, .bool a.down, .string a.word]) := by
    rw [hw2]
    exact Lib.hid ((VarAt.new w 30 [.int .i64 a.row, .int .i64 a.col, .bool a.down, .string a.word]).kept ((Below.refl _ _).alloc (Nat.le_refl _) _))
  have VB : Hid (VarAt w2 (w.heap.size + 1) 30 [.int .i64 b.row, .int .i64 b.col, .bool b.down, .string b.word]) := by
    rw [hw2]
    have := VarAt.new (w.alloc (.cells #[.int .i64 a.row, .int .i64 a.col, .bool a.down, .string a.word] 30)) 30 [.int .i64 b.row, .int .i64 b.col, .bool b.down, .string b.word]
    simp only [World.size_alloc] at this
    exact Lib.hid this
  have HW2 := Lib.hid hw2
  clear hw2
  go_enter Tryz.func114, Tryz.ntmps114
  go_upto_region 1 with fail
  rw [← HW2.out]
  clear HW2
  have a0 := VA.out.cell (i := 0) rfl
  have a1 := VA.out.cell (i := 1) rfl
  have a2 := VA.out.cell (i := 2) rfl
  have a3 := VA.out.cell (i := 3) rfl
  have b0 := VB.out.cell (i := 0) rfl
  have b1 := VB.out.cell (i := 1) rfl
  have b2 := VB.out.cell (i := 2) rfl
  have b3 := VB.out.cell (i := 3) rfl
  cases ha : a.down with
  | false =>
    cases hd : b.down with
    | false =>
      have HD := Lib.hid (ha.trans hd.symm)
      rw [ha] at a2
      rw [hd] at b2
      clear ha hd
      by_cases h2 : a.row = b.row
      case neg =>
        have HC := Lib.hid (cmp2 HD.out h2)
        have HS := Lib.hid (l12Sign_any a.row b.row)
        have e2 : (a.row != b.row) = true := by rw [bne_iff_ne]; exact h2
        clear h2
        generalize sgnI a.row b.row = r2 at *
        go_wp2_with fail
        refine (HS.out _).mono ?_
        rintro e w' ⟨rfl, rfl⟩
        go_wp2
        go_ret
        exact ⟨by rw [HC.out]; rfl, hb⟩
      case pos =>
        by_cases h3 : a.col = b.col
        case neg =>
          have HC := Lib.hid (cmp3 HD.out h2 h3)
          have HS := Lib.hid (l12Sign_any a.col b.col)
          have e2 : (a.row != b.row) = false := by rw [h2]; simp
          have e3 : (a.col != b.col) = true := by rw [bne_iff_ne]; exact h3
          clear h2 h3
          generalize sgnI a.col b.col = r2 at *
          go_wp2_with fail
          refine (HS.out _).mono ?_
          rintro e w' ⟨rfl, rfl⟩
          go_wp2
          go_ret
          exact ⟨by rw [HC.out]; rfl, hb⟩
        case pos =>
          have HC := Lib.hid (cmp4 HD.out h2 h3)
          have HT := Lib.hid (text_cases a.word b.word)
          have e2 : (a.row != b.row) = false := by rw [h2]; simp
          have e3 : (a.col != b.col) = false := by rw [h3]; simp
          clear h2 h3
          generalize sgnT a.word b.word = r2 at *
          rcases HT.out with ⟨t1, rfl⟩ | ⟨t1, t2, rfl⟩ | ⟨t1, t2, rfl⟩
          · clear HT
            go_wp2
            go_ret
            exact ⟨by rw [HC.out]; rfl, hb⟩
          · clear HT
            go_wp2
            go_ret
            exact ⟨by rw [HC.out]; rfl, hb⟩
          · clear HT
            go_wp2
            go_ret
            exact ⟨by rw [HC.out]; rfl, hb⟩
    | true =>
      have HC := Lib.hid (cmp0 ha hd)
      rw [ha] at a2
      rw [hd] at b2
      clear ha hd
      go_wp2
      go_ret
      exact ⟨by rw [HC.out]; rfl, hb⟩
  | true =>
    cases hd : b.down with
    | false =>
      have HC := Lib.hid (cmp1 ha hd)
      rw [ha] at a2
      rw [hd] at b2
      clear ha hd
      go_wp2
      go_ret
      exact ⟨by rw [HC.out]; rfl, hb⟩
    | true =>
      have HD := Lib.hid (ha.trans hd.symm)
      rw [ha] at a2
      rw [hd] at b2
      clear ha hd
      by_cases h2 : a.row = b.row
      case neg =>
        have HC := Lib.hid (cmp2 HD.out h2)
        have HS := Lib.hid (l12Sign_any a.row b.row)
        have e2 : (a.row != b.row) = true := by rw [bne_iff_ne]; exact h2
        clear h2
        generalize sgnI a.row b.row = r2 at *
        go_wp2_with fail
        refine (HS.out _).mono ?_
        rintro e w' ⟨rfl, rfl⟩
        go_wp2
        go_ret
        exact ⟨by rw [HC.out]; rfl, hb⟩
      case pos =>
        by_cases h3 : a.col = b.col
        case neg =>
          have HC := Lib.hid (cmp3 HD.out h2 h3)
          have HS := Lib.hid (l12Sign_any a.col b.col)
          have e2 : (a.row != b.row) = false := by rw [h2]; simp
          have e3 : (a.col != b.col) = true := by rw [bne_iff_ne]; exact h3
          clear h2 h3
          generalize sgnI a.col b.col = r2 at *
          go_wp2_with fail
          refine (HS.out _).mono ?_
          rintro e w' ⟨rfl, rfl⟩
          go_wp2
          go_ret
          exact ⟨by rw [HC.out]; rfl, hb⟩
        case pos =>
          have HC := Lib.hid (cmp4 HD.out h2 h3)
          have HT := Lib.hid (text_cases a.word b.word)
          have e2 : (a.row != b.row) = false := by rw [h2]; simp
          have e3 : (a.col != b.col) = false := by rw [h3]; simp
          clear h2 h3
          generalize sgnT a.word b.word = r2 at *
          rcases HT.out with ⟨t1, rfl⟩ | ⟨t1, t2, rfl⟩ | ⟨t1, t2, rfl⟩
          · clear HT
            go_wp2
            go_ret
            exact ⟨by rw [HC.out]; rfl, hb⟩
          · clear HT
            go_wp2
            go_ret
            exact ⟨by rw [HC.out]; rfl, hb⟩
          · clear HT
            go_wp2
            go_ret
            exact ⟨by rw [HC.out]; rfl, hb⟩
end Go.Proofs.YtjdcdhhbgijaoaaGreatDoor
