/- Plain definitions and lemmas: valid boards, their squares, boards turned over, the letters around a square. No condition. · Contracts: the reference's boards: a cell, a premium, a square, what is on it. For valid boards. · Contracts: the tests on boards, both sides; the program's squares. No condition but that a length fits an int. -/
import Derived.Test.YtjdcdhhbgijaoaaGreatDoorVar
import Derived.Deep.RegionHeld3
import Derived.IntWalk
namespace Go.Proofs.YtjdcdhhbgijaoaaGreatDoor
open Go.ChangeShapes Go.WideShapes Go.ChangeAt Go.RowKit Go.Sort

def capB (c : Int) : Bool := decide (65 ≤ c) && decide (c ≤ 90)
def cellB (c : Int) : Bool := (c == 46) || smallB c || capB c
def premB (c : Int) : Bool := (c == 50) || (c == 51) || (c == 100) || (c == 116) || (c == 46)
def allC (s : ByteArray) : Bool := s.data.toList.all fun c => cellB c.toNat
def allP (s : ByteArray) : Bool := s.data.toList.all fun c => premB c.toNat
def Brd.ok (b : Brd) : Bool := withinB b.size 5 15 && decide ((b.premium.size : Int) = b.size * b.size) && decide (b.cells.size = b.premium.size) && allP b.premium && allC b.cells
/-- a valid board of n rows -/
structure Brd.Good (b : Brd) (n : Nat) : Prop where
  size : b.size = n
  lo : 5 ≤ n
  hi : n ≤ 15
  prem : b.premium.size = n * n
  cells : b.cells.size = n * n
  okP : allP b.premium = true
  okC : allC b.cells = true
theorem sq_mono {n : Nat} (h : n ≤ 15) : n * n ≤ 225 := Nat.mul_le_mul h h
theorem Brd.good {b : Brd} (h : b.ok = true) : ∃ n, b.Good n := by
  unfold Brd.ok withinB at h
  simp only [Bool.and_eq_true, decide_eq_true_eq] at h
  obtain ⟨⟨⟨⟨⟨h1, h2⟩, h3⟩, h4⟩, h5⟩, h6⟩ := h
  have e : b.size = (b.size.toNat : Int) := by omega
  rw [e] at h3
  have h3' : b.premium.size = b.size.toNat * b.size.toNat := by exact_mod_cast h3
  exact ⟨b.size.toNat, e, by omega, by omega, h3', by omega, h5, h6⟩
theorem Brd.Good.ok {b : Brd} {n : Nat} (h : b.Good n) : b.ok = true := by
  obtain ⟨h1, h2, h3, h4, h5, h6, h7⟩ := h
  unfold Brd.ok withinB
  simp only [Bool.and_eq_true, decide_eq_true_eq]
  refine ⟨⟨⟨⟨⟨by omega, by omega⟩, ?_⟩, by omega⟩, h6⟩, h7⟩
  rw [h1, h4]
  push_cast
  rfl
abbrev Fl := Int → Int → UInt8
def fullC (c : UInt8) : Bool := (c != 0) && (c != 46)
def Brd.inB (b : Brd) (r c : Int) : Bool := withinB r 0 (b.size - 1) && withinB c 0 (b.size - 1)
/-- what is on a square; 0 beside the board -/
def Brd.cell (b : Brd) : Fl := fun r c => if b.inB r c then b.cells.data.toList.getD (r * b.size + c).toNat 0 else 0
def Brd.prm (b : Brd) : Fl := fun r c => b.premium.data.toList.getD (r * b.size + c).toNat 0
theorem within_iff {x lo hi : Int} : withinB x lo hi = true ↔ lo ≤ x ∧ x ≤ hi := by unfold withinB; simp
theorem Brd.Good.inB {b : Brd} {n : Nat} (h : b.Good n) {r c : Int} : b.inB r c = true ↔ (0 ≤ r ∧ r < n) ∧ 0 ≤ c ∧ c < n := by
  unfold Brd.inB
  rw [Bool.and_eq_true, within_iff, within_iff, h.size]
  omega
theorem row_ltn {R C r c : Nat} (hr : r < R) (hc : c < C) : r * C + c < R * C := by
  have : (r + 1) * C ≤ R * C := Nat.mul_le_mul_right _ (by omega)
  rw [Nat.succ_mul] at this
  omega
theorem Brd.Good.get {b : Brd} {n : Nat} (h : b.Good n) {r c : Nat} (hr : r < n) (hc : c < n) : r * n + c < b.cells.size := by
  rw [h.cells]
  exact row_ltn hr hc
theorem Brd.Good.cell_in {b : Brd} {n : Nat} (h : b.Good n) {r c : Nat} (hr : r < n) (hc : c < n) {q : Nat} (hq : q = r * n) (hl : q + c < b.cells.size) : b.cell r c = b.cells[q + c] := by
  subst hq
  have hi : b.inB r c = true := h.inB.2 (by omega)
  unfold Brd.cell
  rw [if_pos hi, h.size]
  have e : ((r : Int) * (n : Int) + (c : Int)).toNat = r * n + c := by
    rw [← Int.natCast_mul, ← Int.natCast_add, Int.toNat_natCast]
  rw [e, List.getD_eq_getElem?_getD, List.getElem?_eq_getElem (by simpa using hl)]
  rfl
theorem Brd.cell_out {b : Brd} {r c : Int} (h : b.inB r c = false) : b.cell r c = 0 := by unfold Brd.cell; rw [h]; rfl
theorem cellB_ne0 {c : UInt8} (h : cellB c.toNat = true) : c ≠ 0 := by
  intro e
  subst e
  simp [cellB, smallB, capB] at h
theorem Brd.Good.cell_ok {b : Brd} {n : Nat} (h : b.Good n) {r c : Int} (hi : b.inB r c = true) : cellB (b.cell r c).toNat = true := by
  have hi2 := h.inB.1 hi
  obtain ⟨r, rfl⟩ := Int.eq_ofNat_of_zero_le hi2.1.1
  obtain ⟨c, rfl⟩ := Int.eq_ofNat_of_zero_le hi2.2.1
  have hl := h.get (r := r) (c := c) (by omega) (by omega)
  rw [h.cell_in (by omega) (by omega) rfl hl]
  exact List.all_eq_true.1 h.okC _ (by rw [← bytes_get b.cells _ hl]; exact List.getElem_mem _)
theorem Brd.Good.cell_ne0 {b : Brd} {n : Nat} (h : b.Good n) {r c : Int} (hi : b.inB r c = true) : b.cell r c ≠ 0 := cellB_ne0 (h.cell_ok hi)
theorem Brd.Good.full_in {b : Brd} {n : Nat} (_h : b.Good n) {r c : Int} (hf : fullC (b.cell r c) = true) : b.inB r c = true := by
  cases hi : b.inB r c with
  | true => rfl
  | false => rw [Brd.cell_out hi] at hf; simp [fullC] at hf
theorem Brd.Good.full_eq {b : Brd} {n : Nat} (h : b.Good n) {r c : Int} (hi : b.inB r c = true) : fullC (b.cell r c) = (b.cell r c != 46) := by
  have := h.cell_ne0 hi
  unfold fullC
  rw [show (b.cell r c != 0) = true from by simpa using this, Bool.true_and]
theorem full_int (c : UInt8) : fullC c = (((c.toNat : Int) != 0) && ((c.toNat : Int) != 46)) := by
  unfold fullC
  congr 1
  · rw [Bool.eq_iff_iff, bne_iff_ne, bne_iff_ne]
    exact not_congr ⟨fun h => by rw [h]; rfl, fun h => UInt8.toNat_inj.1 (show c.toNat = 0 from by omega)⟩
  · rw [Bool.eq_iff_iff, bne_iff_ne, bne_iff_ne]
    exact not_congr ⟨fun h => by rw [h]; rfl, fun h => UInt8.toNat_inj.1 (show c.toNat = 46 from by omega)⟩
/-- a letter is a small or a capital one -/
def letB (c : Int) : Bool := smallB c || capB c
theorem Brd.Good.full_let {b : Brd} {n : Nat} (h : b.Good n) {r c : Int} (hf : fullC (b.cell r c) = true) : letB (b.cell r c).toNat = true := by
  have hi := h.full_in hf
  have h1 := h.cell_ok hi
  have h2 := h.full_eq hi
  rw [hf] at h2
  have h3 : ¬ (b.cell r c).toNat = 46 := by
    intro e
    have : b.cell r c = 46 := UInt8.toNat_inj.1 e
    simp [this] at h2
  unfold cellB at h1
  unfold letB
  simp only [Bool.or_eq_true, beq_iff_eq] at h1 ⊢
  rcases h1 with (h1 | h1) | h1
  · exact absurd (by exact_mod_cast h1) h3
  · exact .inl h1
  · exact .inr h1

/-! ### Turned over -/
def turnB (n : Nat) (l : List UInt8) : List UInt8 := (List.range (n * n)).map fun k => l.getD (k % n * n + k / n) 0
def Brd.turn (b : Brd) : Brd := ⟨b.size, mkB (turnB b.size.toNat b.premium.data.toList), mkB (turnB b.size.toNat b.cells.data.toList)⟩
theorem turnB_len (n : Nat) (l : List UInt8) : (turnB n l).length = n * n := by simp [turnB]
theorem turnB_get {n : Nat} {l : List UInt8} {r c : Nat} (hr : r < n) (hc : c < n) : (turnB n l).getD (r * n + c) 0 = l.getD (c * n + r) 0 := by
  have hl := row_ltn hr hc
  unfold turnB
  rw [List.getD_eq_getElem?_getD, List.getElem?_map, List.getElem?_range hl]
  have h1 : (r * n + c) % n = c := by rw [Nat.mul_comm, Nat.mul_add_mod, Nat.mod_eq_of_lt hc]
  have h2 : (r * n + c) / n = r := by rw [Nat.mul_comm, Nat.mul_add_div (by omega), Nat.div_eq_of_lt hc]; omega
  simp only [Option.map_some, Option.getD_some, h1, h2]
theorem turnB_all {n : Nat} {l : List UInt8} {p : UInt8 → Bool} (hl : l.length = n * n) (h : l.all p = true) : (turnB n l).all p = true := by
  rw [List.all_eq_true]
  intro x hx
  unfold turnB at hx
  obtain ⟨k, hk, rfl⟩ := List.mem_map.1 hx
  rw [List.mem_range] at hk
  have hn : 0 < n := by
    cases n with
    | zero => simp at hk
    | succ n => omega
  have h1 : k % n < n := Nat.mod_lt _ hn
  have h2 : k / n < n := Nat.div_lt_of_lt_mul hk
  have h3 := row_ltn h1 h2
  rw [List.getD_eq_getElem?_getD, List.getElem?_eq_getElem (by omega)]
  exact List.all_eq_true.1 h _ (List.getElem_mem _)
theorem Brd.Good.turn {b : Brd} {n : Nat} (h : b.Good n) : b.turn.Good n := by
  have e : b.size.toNat = n := by rw [h.size]; simp
  have hp : b.premium.data.toList.length = n * n := by simpa using h.prem
  have hc : b.cells.data.toList.length = n * n := by simpa using h.cells
  refine ⟨h.size, h.lo, h.hi, ?_, ?_, ?_, ?_⟩
  · simp only [Brd.turn, mkB_size, turnB_len, e]
  · simp only [Brd.turn, mkB_size, turnB_len, e]
  · simp only [Brd.turn, allP, mkB_data, e]
    exact turnB_all hp h.okP
  · simp only [Brd.turn, allC, mkB_data, e]
    exact turnB_all hc h.okC
theorem Brd.Good.turn_cell {b : Brd} {n : Nat} (h : b.Good n) : b.turn.cell = fun r c => b.cell c r := by
  funext r c
  have e : b.size.toNat = n := by rw [h.size]; simp
  have hin : b.turn.inB r c = b.inB c r := by unfold Brd.inB; rw [Bool.and_comm]; rfl
  cases hi : b.inB c r with
  | false => rw [Brd.cell_out hi, Brd.cell_out (hin.trans hi)]
  | true =>
    have hi2 := h.inB.1 hi
    unfold Brd.cell
    rw [hin, hi]
    show (mkB (turnB b.size.toNat b.cells.data.toList)).data.toList.getD (r * b.size + c).toNat 0 = _
    rw [mkB_data, e, h.size]
    obtain ⟨r, rfl⟩ := Int.eq_ofNat_of_zero_le hi2.2.1
    obtain ⟨c, rfl⟩ := Int.eq_ofNat_of_zero_le hi2.1.1
    rw [← Int.natCast_mul, ← Int.natCast_add, Int.toNat_natCast, turnB_get (by omega) (by omega), if_pos rfl, ← Int.natCast_mul, ← Int.natCast_add, Int.toNat_natCast]
theorem Brd.Good.turn_prm {b : Brd} {n : Nat} (h : b.Good n) {r c : Int} (hi : b.inB r c = true) : b.turn.prm r c = b.prm c r := by
  have e : b.size.toNat = n := by rw [h.size]; simp
  have hi2 := h.inB.1 hi
  unfold Brd.prm
  show (mkB (turnB b.size.toNat b.premium.data.toList)).data.toList.getD (r * b.size + c).toNat 0 = _
  rw [mkB_data, e, h.size]
  obtain ⟨r, rfl⟩ := Int.eq_ofNat_of_zero_le hi2.1.1
  obtain ⟨c, rfl⟩ := Int.eq_ofNat_of_zero_le hi2.2.1
  rw [← Int.natCast_mul, ← Int.natCast_add, Int.toNat_natCast, turnB_get (by omega) (by omega), ← Int.natCast_mul, ← Int.natCast_add, Int.toNat_natCast]
/-- the board as an across play sees it -/
def Brd.flat (b : Brd) (down : Bool) : Brd := if down then b.turn else b
theorem Brd.Good.flat {b : Brd} {n : Nat} (h : b.Good n) (down : Bool) : (b.flat down).Good n := by
  cases down
  · exact h
  · exact h.turn

/-! ### The letters around a square -/
def lowC (c : UInt8) : UInt8 := if capB c.toNat then c + 32 else c
def lowL (l : List UInt8) : List UInt8 := l.map lowC
/-- the letters from a row on upwards, or downwards -/
def upL (F : Fl) (c : Int) : Nat → Int → List UInt8
  | 0, _ => []
  | k + 1, r => if fullC (F r c) then F r c :: upL F c k (r - 1) else []
def dnL (F : Fl) (c : Int) : Nat → Int → List UInt8
  | 0, _ => []
  | k + 1, r => if fullC (F r c) then F r c :: dnL F c k (r + 1) else []
theorem upL_len (F : Fl) (c : Int) : ∀ (k : Nat) (r : Int), (upL F c k r).length ≤ k
  | 0, _ => by simp [upL]
  | k + 1, r => by
    unfold upL
    split
    · simpa using upL_len F c k (r - 1)
    · simp
theorem dnL_len (F : Fl) (c : Int) : ∀ (k : Nat) (r : Int), (dnL F c k r).length ≤ k
  | 0, _ => by simp [dnL]
  | k + 1, r => by
    unfold dnL
    split
    · simpa using dnL_len F c k (r + 1)
    · simp
/-- what is before and behind a free square, across a direction -/
def Brd.around (b : Brd) (r c : Int) (down : Bool) : List UInt8 × List UInt8 :=
  if down then (lowL (upL (fun x y => b.cell y x) r 16 (c - 1)).reverse, lowL (dnL (fun x y => b.cell y x) r 16 (c + 1)))
  else (lowL (upL b.cell c 16 (r - 1)).reverse, lowL (dnL b.cell c 16 (r + 1)))
end Go.Proofs.YtjdcdhhbgijaoaaGreatDoor

namespace Go.Proofs.YtjdcdhhbgijaoaaGreatDoor
open Go.ChangeShapes Go.WideShapes Go.ChangeAt Go.RowKit Go.Sort

/-- a board lies at an address -/
def BAt (w : World) (g o : Nat) (b : Brd) : Prop :=
  w.cell? ⟨g, o, none⟩ = some (.int .i64 b.size) ∧ w.cell? ⟨g, o + 1, none⟩ = some (.string b.premium) ∧ w.cell? ⟨g, o + 2, none⟩ = some (.string b.cells)
theorem BAt.kept {w w' : World} {g o : Nat} {b : Brd} (h : BAt w g o b) (hb : Below w.heap.size w w') : BAt w' g o b :=
  ⟨cell_kept h.1 hb, cell_kept h.2.1 hb, cell_kept h.2.2 hb⟩
theorem BAt.drew {w w' : World} {g o : Nat} {b : Brd} (h : BAt w g o b) (hb : Drew w w') : BAt w' g o b := h.kept (hb.below _)
theorem BAt.grown {w w' : World} {g o : Nat} {b : Brd} (h : BAt w g o b) {row : Option Nat} (hg : w.grownBy w' row) (hne : some g ≠ row) : BAt w' g o b :=
  ⟨hg.cell h.1 hne, hg.cell h.2.1 hne, hg.cell h.2.2 hne⟩
theorem BAt.new (w : World) (b : Brd) (t : TypeId) : BAt (w.alloc (.cells #[.int .i64 b.size, .string b.premium, .string b.cells] t)) w.heap.size 0 b :=
  ⟨cell_new0 w _ t rfl, cell_new0 w _ t rfl, cell_new0 w _ t rfl⟩
theorem BAt.lt {w : World} {g o : Nat} {b : Brd} (h : BAt w g o b) : g < w.heap.size := block_lt h.1

theorem l03Capital_any (c : Int) (w : World) : Calls Tryz.prog 204 #[.int .u8 c] w fun e w' => e = .returned (.bool (capB c)) ∧ w = w' := by
  go_enter Tryz.func204, Tryz.ntmps204
  go_wp2
  all_goals (go_ret; exact ⟨ret_bool (by unfold capB; rw [Bool.eq_iff_iff]; simp only [Bool.and_eq_true, decide_eq_true_eq, Bool.false_eq_true, false_iff]; omega), rfl⟩)
theorem capital_any (c : Int) (w : World) : Calls Tryz.prog 207 #[.int .u8 c] w fun e w' => e = .returned (.bool (capB c)) ∧ w = w' := by
  go_enter Tryz.func207, Tryz.ntmps207
  go_wp2
  all_goals (go_ret; exact ⟨ret_bool (by unfold capB; rw [Bool.eq_iff_iff]; simp only [Bool.and_eq_true, decide_eq_true_eq, Bool.false_eq_true, false_iff]; omega), rfl⟩)
theorem l11Cell_any (c : UInt8) (w : World) : Calls Tryz.prog 166 #[.int .u8 (c.toNat : Int)] w fun e w' => e = .returned (.bool (cellB c.toNat)) ∧ w = w' := by
  cases h1 : ((c.toNat : Int) == 46) with
  | true =>
    have HE : Hid (cellB c.toNat = true) := Lib.hid (by unfold cellB; rw [h1]; rfl)
    go_enter Tryz.func166, Tryz.ntmps166
    go_wp2
    go_ret
    exact ⟨ret_bool HE.out.symm, rfl⟩
  | false =>
    cases h2 : smallB (c.toNat : Int) with
    | true =>
      have HE : Hid (cellB c.toNat = true) := Lib.hid (by unfold cellB; rw [h1, h2]; rfl)
      go_enter Tryz.func166, Tryz.ntmps166
      go_wp2_with fail
      refine (l01Small_any _ _).mono ?_
      rintro e w' ⟨rfl, rfl⟩
      rw [h2]
      clear h2
      go_wp2
      go_ret
      exact ⟨ret_bool HE.out.symm, rfl⟩
    | false =>
      have HE : Hid (cellB c.toNat = capB c.toNat) := Lib.hid (by unfold cellB; rw [h1, h2]; rfl)
      go_enter Tryz.func166, Tryz.ntmps166
      go_wp2_with fail
      refine (l01Small_any _ _).mono ?_
      rintro e w' ⟨rfl, rfl⟩
      rw [h2]
      clear h2
      go_wp2_with fail
      refine (l03Capital_any _ _).mono ?_
      rintro e w' ⟨rfl, rfl⟩
      go_wp2
      go_ret
      exact ⟨ret_bool HE.out.symm, rfl⟩
theorem cellOk_any (c : UInt8) (w : World) : Calls Tryz.prog 162 #[.int .u8 (c.toNat : Int)] w fun e w' => e = .returned (.bool (cellB c.toNat)) ∧ w = w' := by
  cases h1 : ((c.toNat : Int) == 46) with
  | true =>
    have HE : Hid (cellB c.toNat = true) := Lib.hid (by unfold cellB; rw [h1]; rfl)
    go_enter Tryz.func162, Tryz.ntmps162
    go_wp2
    go_ret
    exact ⟨ret_bool HE.out.symm, rfl⟩
  | false =>
    cases h2 : smallB (c.toNat : Int) with
    | true =>
      have HE : Hid (cellB c.toNat = true) := Lib.hid (by unfold cellB; rw [h1, h2]; rfl)
      go_enter Tryz.func162, Tryz.ntmps162
      go_wp2_with fail
      refine (small_any _ _).mono ?_
      rintro e w' ⟨rfl, rfl⟩
      rw [h2]
      clear h2
      go_wp2
      go_ret
      exact ⟨ret_bool HE.out.symm, rfl⟩
    | false =>
      have HE : Hid (cellB c.toNat = capB c.toNat) := Lib.hid (by unfold cellB; rw [h1, h2]; rfl)
      go_enter Tryz.func162, Tryz.ntmps162
      go_wp2_with fail
      refine (small_any _ _).mono ?_
      rintro e w' ⟨rfl, rfl⟩
      rw [h2]
      clear h2
      go_wp2_with fail
      refine (capital_any _ _).mono ?_
      rintro e w' ⟨rfl, rfl⟩
      go_wp2
      go_ret
      exact ⟨ret_bool HE.out.symm, rfl⟩
theorem l11Premium_any (c : UInt8) (w : World) : Calls Tryz.prog 167 #[.int .u8 (c.toNat : Int)] w fun e w' => e = .returned (.bool (premB c.toNat)) ∧ w = w' := by
  have HE : Hid (∀ b : Bool, premB c.toNat = b → Ending.returned (.bool b) = Ending.returned (.bool (premB c.toNat))) := Lib.hid (fun b h => by rw [h])
  have HP : Hid (premB (c.toNat : Int) = (((c.toNat : Int) == 50) || ((c.toNat : Int) == 51) || ((c.toNat : Int) == 100) || ((c.toNat : Int) == 116) || ((c.toNat : Int) == 46))) := Lib.hid rfl
  cases h1 : ((c.toNat : Int) == 46) with
  | true =>
    go_enter Tryz.func167, Tryz.ntmps167
    go_wp2
    go_ret
    exact ⟨HE.out _ (by rw [HP.out, h1]; simp), rfl⟩
  | false =>
    cases h2 : ((c.toNat : Int) == 50) with
    | true =>
      go_enter Tryz.func167, Tryz.ntmps167
      go_wp2
      go_ret
      exact ⟨HE.out _ (by rw [HP.out, h2]; simp), rfl⟩
    | false =>
      cases h3 : ((c.toNat : Int) == 51) with
      | true =>
        go_enter Tryz.func167, Tryz.ntmps167
        go_wp2
        go_ret
        exact ⟨HE.out _ (by rw [HP.out, h3]; simp), rfl⟩
      | false =>
        cases h4 : ((c.toNat : Int) == 100) with
        | true =>
          go_enter Tryz.func167, Tryz.ntmps167
          go_wp2
          go_ret
          exact ⟨HE.out _ (by rw [HP.out, h4]; simp), rfl⟩
        | false =>
          go_enter Tryz.func167, Tryz.ntmps167
          go_wp2
          go_ret
          exact ⟨HE.out _ (by rw [HP.out, h1, h2, h3, h4]; simp), rfl⟩
theorem l11Size_any (x : Int) (w : World) : Calls Tryz.prog 100 #[.int .i64 x] w fun e w' => e = .returned (.bool (withinB x 5 15)) ∧ w = w' := by
  go_enter Tryz.func100, Tryz.ntmps100
  go_wp2_with fail
  refine (l00In_any _ _ _ _).mono ?_
  rintro e w' ⟨rfl, rfl⟩
  go_wp2
  go_ret
  exact ⟨rfl, rfl⟩
theorem sizeOk_any (x : Int) (w : World) : Calls Tryz.prog 159 #[.int .i64 x] w fun e w' => e = .returned (.bool (withinB x 5 15)) ∧ w = w' := by
  go_enter Tryz.func159, Tryz.ntmps159
  go_wp2_with fail
  refine (within_any _ _ _ _).mono ?_
  rintro e w' ⟨rfl, rfl⟩
  go_wp2
  go_ret
  exact ⟨rfl, rfl⟩
set_option maxHeartbeats 1000000 in
theorem l11In_any (b : Brd) (n : Nat) (r c : Int) (g o : Nat) (w : World) (hb : b.Good n) (hg : BAt w g o b) :
    Calls Tryz.prog 240 #[.pointer (some ⟨g, o, none⟩), .int .i64 r, .int .i64 c] w fun e w' => e = .returned (.bool (b.inB r c)) ∧ w = w' := by
  have HS : Hid (b.inB r c = (withinB r 0 ((n : Int) - 1) && withinB c 0 ((n : Int) - 1))) := Lib.hid (by unfold Brd.inB; rw [hb.size])
  obtain ⟨g0, g1, g2⟩ := hg
  rw [hb.size] at g0
  have h15 := hb.hi
  have h5 := hb.lo
  clear g1 g2 hb
  cases h1 : withinB r 0 ((n : Int) - 1) with
  | false =>
    have HE : Hid (b.inB r c = false) := Lib.hid (by rw [HS.out, h1]; rfl)
    go_enter Tryz.func240, Tryz.ntmps240
    go_wp2_with fail
    refine (l00In_any _ _ _ _).mono ?_
    rintro e w' ⟨rfl, rfl⟩
    rw [h1]
    clear h1
    go_wp2
    go_ret
    exact ⟨ret_bool HE.out.symm, rfl⟩
  | true =>
    have HE : Hid (b.inB r c = withinB c 0 ((n : Int) - 1)) := Lib.hid (by rw [HS.out, h1]; rfl)
    go_enter Tryz.func240, Tryz.ntmps240
    go_wp2_with fail
    refine (l00In_any _ _ _ _).mono ?_
    rintro e w' ⟨rfl, rfl⟩
    rw [h1]
    clear h1
    go_wp2_with fail
    refine (l00In_any _ _ _ _).mono ?_
    rintro e w' ⟨rfl, rfl⟩
    go_wp2
    go_ret
    exact ⟨ret_bool HE.out.symm, rfl⟩
/-- the bounds of a square's place -/
theorem Brd.Good.place {b : Brd} {n : Nat} (hb : b.Good n) {r c : Int} (hi : b.inB r c = true) : ∃ (i j q : Nat), r = i ∧ c = j ∧ q = i * n ∧ (i : Int) * (n : Int) = (q : Int) ∧ q + j < b.cells.size ∧ q + j < 225 ∧ i < n ∧ j < n ∧ (∀ h : q + j < b.cells.size, b.cell r c = b.cells[q + j]) := by
  have hi2 := hb.inB.1 hi
  obtain ⟨i, rfl⟩ := Int.eq_ofNat_of_zero_le hi2.1.1
  obtain ⟨j, rfl⟩ := Int.eq_ofNat_of_zero_le hi2.2.1
  have hl := hb.get (r := i) (c := j) (by omega) (by omega)
  have h2 := sq_mono hb.hi
  have h3 := hb.cells
  exact ⟨i, j, i * n, rfl, rfl, rfl, by push_cast; rfl, hl, by omega, by omega, by omega, fun h => hb.cell_in (by omega) (by omega) rfl h⟩
set_option maxHeartbeats 2000000 in
theorem l11At_any (b : Brd) (n : Nat) (r c : Int) (g o : Nat) (w : World) (hb : b.Good n) (hg : BAt w g o b) (hi : b.inB r c = true) :
    Calls Tryz.prog 192 #[.pointer (some ⟨g, o, none⟩), .int .i64 r, .int .i64 c] w fun e w' => e = .returned (.int .u8 ((b.cell r c).toNat : Int)) ∧ Drew w w' := by
  obtain ⟨i, j, q, rfl, rfl, hq, hqi, hl, hlt, hin, hjn, hc⟩ := hb.place hi
  have HX := Lib.hid (hc hl)
  obtain ⟨g0, g1, g2⟩ := hg
  rw [hb.size] at g0
  have h15 := hb.hi
  clear hb hi hc hq
  go_enter Tryz.func192, Tryz.ntmps192
  go_wp2_with fail
  have w1 : IntKind.i64.wrap (q : Int) = q := IntWalk.i64_in _ (by omega)
  have w2 : IntKind.i64.wrap ((q : Int) + (j : Int)) = (q : Int) + j := IntWalk.i64_in _ (by omega)
  have w3 : ((q : Int) + (j : Int)).toNat = q + j := by omega
  have w4 : (0 : Int) ≤ (q : Int) + (j : Int) := by omega
  have w5 : (q : Int) + (j : Int) < (b.cells.size : Int) := by omega
  go_quiet (fail)
  clear w1 w2
  go_wp2
  go_ret
  exact ⟨by rw [HX.out]; rfl, ⟨_, rfl⟩⟩
theorem u8_46 {c : UInt8} (h : c.toNat = 46) : c = 46 := UInt8.toNat_inj.1 h
set_option maxHeartbeats 1000000 in
theorem l11Full_any (b : Brd) (n : Nat) (r c : Int) (g o : Nat) (w : World) (hb : b.Good n) (hg : BAt w g o b) :
    Calls Tryz.prog 200 #[.pointer (some ⟨g, o, none⟩), .int .i64 r, .int .i64 c] w fun e w' => e = .returned (.bool (fullC (b.cell r c))) ∧ Drew w w' := by
  cases hi : b.inB r c with
  | false =>
    have HE : Hid (fullC (b.cell r c) = false) := Lib.hid (by rw [Brd.cell_out hi]; rfl)
    go_enter Tryz.func200, Tryz.ntmps200
    go_wp2_with fail
    refine (l11In_any b n r c g o _ hb hg).mono ?_
    rintro e w' ⟨rfl, rfl⟩
    rw [hi]
    go_wp2
    go_ret
    exact ⟨ret_bool HE.out.symm, Drew.refl _⟩
  | true =>
    have HE : Hid (fullC (b.cell r c) = (((b.cell r c).toNat : Int) != 46)) := Lib.hid (by
      rw [hb.full_eq hi, Bool.eq_iff_iff, bne_iff_ne, bne_iff_ne]
      exact not_congr ⟨fun h => by rw [h]; rfl, fun h => u8_46 (by omega)⟩)
    go_enter Tryz.func200, Tryz.ntmps200
    go_wp2_with fail
    refine (l11In_any b n r c g o _ hb hg).mono ?_
    rintro e w' ⟨rfl, rfl⟩
    rw [hi]
    go_wp2_with fail
    refine (l11At_any b n r c g o _ hb hg hi).mono ?_
    rintro e w' ⟨rfl, hd⟩
    have HD := Lib.hid hd
    clear hd
    go_wp2
    go_ret
    exact ⟨ret_bool HE.out.symm, HD.out⟩
end Go.Proofs.YtjdcdhhbgijaoaaGreatDoor

namespace Go.Proofs.YtjdcdhhbgijaoaaGreatDoor
open Go.ChangeShapes Go.WideShapes Go.ChangeAt Go.RowKit Go.Sort

/-! ### Plain -/
theorem Brd.ok_size {b : Brd} (h : withinB b.size 5 15 = false) : b.ok = false := by unfold Brd.ok; rw [h]; rfl
theorem Brd.ok_prem {b : Brd} (h : ¬ (b.premium.size : Int) = b.size * b.size) : b.ok = false := by unfold Brd.ok; rw [decide_eq_false h]; simp
theorem Brd.ok_cells {b : Brd} (h : ¬ b.cells.size = b.premium.size) : b.ok = false := by unfold Brd.ok; rw [decide_eq_false h]; simp
theorem Brd.ok_eq {b : Brd} (h1 : withinB b.size 5 15 = true) (h2 : (b.premium.size : Int) = b.size * b.size) (h3 : b.cells.size = b.premium.size) : b.ok = (allP b.premium && allC b.cells) := by
  unfold Brd.ok; rw [h1, decide_eq_true h2, decide_eq_true h3]; rfl
theorem withinN {x : Int} (h : withinB x 5 15 = true) : ∃ n : Nat, x = n ∧ 5 ≤ n ∧ n ≤ 15 := by
  have := within_iff.1 h
  exact ⟨x.toNat, by omega, by omega, by omega⟩
theorem all_get {s : ByteArray} {p : UInt8 → Bool} {k : Nat} (h : k < s.size) (hp : p s[k] = false) : s.data.toList.all p = false :=
  all_false_of (k := k) (by simpa using h) hp
theorem all_step {s : ByteArray} {p : UInt8 → Bool} {k : Nat} (h : k < s.size) (h1 : (s.data.toList.take k).all p = true) (h2 : p s[k] = true) : (s.data.toList.take (k + 1)).all p = true := by
  rw [take_all_succ (by simpa using h), h1, Bool.true_and]; exact h2
theorem all_end {s : ByteArray} {p : UInt8 → Bool} {k : Nat} (hk : s.size ≤ k) (h : (s.data.toList.take k).all p = true) : s.data.toList.all p = true := by
  rwa [List.take_of_length_le (by simpa using hk)] at h
/-- the tests up to a place -/
def upTo (p : Int → Bool) (s : ByteArray) (k : Nat) : Prop := (s.data.toList.take k).all (fun c => p c.toNat) = true
theorem upTo.zero (p : Int → Bool) (s : ByteArray) : upTo p s 0 := rfl

set_option maxHeartbeats 2000000 in
theorem allCell_any (s : ByteArray) (w : World) (hs : s.size ≤ 9223372036854775807) : Calls Tryz.prog 160 #[.string s, .func (.func 162) #[] #[]] w fun e w' => e = .returned (.bool (allC s)) ∧ w = w' := by
  show Calls _ _ _ _ fun e w' => e = .returned (.bool (s.data.toList.all (fun c => cellB c.toNat))) ∧ w = w'
  obtain ⟨all, hall⟩ : ∃ all, all = s.data.toList.all (fun c => cellB c.toNat) := ⟨_, rfl⟩
  rw [← hall]
  have HL := Lib.hid hall
  clear hall
  go_enter Tryz.func160, Tryz.ntmps160
  go_wp2
  go_loop [5] (fun i => ∃ k : Nat, k ≤ s.size ∧ i = .int .i64 k ∧ Hid (upTo cellB s k)) (fun i => s.size - (intOf i).toNat)
  case atStart => exact ⟨0, Nat.zero_le _, rfl, Lib.hid (upTo.zero _ _)⟩
  case round =>
    obtain ⟨k, hk, rfl, HA⟩ := hrel
    by_cases hlt : k < s.size
    · cases hsm : cellB s[k].toNat with
      | false =>
        have HN : Hid (all = false) := Lib.hid (by rw [HL.out]; exact all_get hlt hsm)
        go_wp2_with fail
        refine (cellOk_any _ _).mono ?_
        rintro e w' ⟨rfl, rfl⟩
        rw [hsm]
        clear hsm
        go_wp2
        go_ret
        exact ⟨ret_bool HN.out.symm, rfl⟩
      | true =>
        have HN : Hid (upTo cellB s (k + 1)) := Lib.hid (all_step hlt HA.out hsm)
        go_wp2_with fail
        refine (cellOk_any _ _).mono ?_
        rintro e w' ⟨rfl, rfl⟩
        rw [hsm]
        clear hsm
        go_wp2
        go_round
        case rel => exact ⟨k + 1, by omega, by go_num, HN⟩
        case measure => simp [intOf]; omega
    · have HN : Hid (all = true) := Lib.hid (by rw [HL.out]; exact all_end (k := k) (by omega) HA.out)
      go_wp2
      go_ret
      exact ⟨ret_bool HN.out.symm, rfl⟩
set_option maxRecDepth 100000 in
set_option maxHeartbeats 4000000 in
theorem l11Ok_any (b : Brd) (g o : Nat) (w : World) (hg : BAt w g o b) (hf : b.fit) :
    Calls Tryz.prog 74 #[.pointer (some ⟨g, o, none⟩)] w fun e w' => e = .returned (.bool b.ok) ∧ Drew w w' := by
  have HF := Lib.hid hf
  obtain ⟨hf1, hf2⟩ := hf
  have HG := Lib.hid hg
  obtain ⟨g0, g1, g2⟩ := hg
  have HI : Hid (∀ W, Calls Tryz.prog 100 #[.int .i64 b.size] W fun e w' => e = .returned (.bool (withinB b.size 5 15)) ∧ W = w') := Lib.hid (fun W => l11Size_any b.size W)
  cases h1 : withinB b.size 5 15 with
  | false =>
    have HN := Lib.hid (Brd.ok_size h1)
    have HI1 : Hid (∀ W, Calls Tryz.prog 100 #[.int .i64 b.size] W fun e w' => e = .returned (.bool false) ∧ W = w') := Lib.hid (fun W => by have := HI.out W; rwa [h1] at this)
    clear h1
    go_enter Tryz.func74, Tryz.ntmps74
    go_wp2_with fail
    go_quiet ((go_at_call 100; exact quiet_of_eq (HI1.out _)))
    go_wp2
    go_ret
    exact ⟨ret_bool HN.out.symm, ⟨_, rfl⟩⟩
  | true =>
    have HN1 := Lib.hid (Brd.ok_prem (b := b))
    have HN2 := Lib.hid (Brd.ok_cells (b := b))
    have HY := Lib.hid (Brd.ok_eq (b := b) h1)
    obtain ⟨n, hn, n5, n15⟩ := withinN h1
    have HI1 : Hid (∀ W, Calls Tryz.prog 100 #[.int .i64 (n : Int)] W fun e w' => e = .returned (.bool true) ∧ W = w') := Lib.hid (fun W => by have := HI.out W; rwa [h1, hn] at this)
    have HSZ := Lib.hid hn
    rw [hn] at g0
    obtain ⟨q, hq⟩ : ∃ q, q = n * n := ⟨_, rfl⟩
    have hqi : (n : Int) * (n : Int) = (q : Int) := by rw [hq]; push_cast; rfl
    have hq3 : q ≤ 225 := by rw [hq]; exact sq_mono n15
    have HQ := Lib.hid hqi
    clear h1 HI hn hq
    by_cases h3 : b.premium.size = q
    · have h4 : ((b.premium.size : Int) != (q : Int)) = false := by rw [h3]; simp
      by_cases h5 : b.cells.size = q
      · have h6 : ((b.cells.size : Int) != (q : Int)) = false := by rw [h5]; simp
        have HN : Hid (b.ok = (allP b.premium && allC b.cells)) := Lib.hid (HY.out (by rw [HSZ.out, HQ.out, h3]) (by omega))
        have H3 := Lib.hid h3
        have H5 := Lib.hid h5
        clear HN1 HN2 HY h3 h5
        go_enter Tryz.func74, Tryz.ntmps74
        go_wp2_with fail
        go_quiet ((go_at_call 100; exact quiet_of_eq (HI1.out _)))
        replace HG := Lib.hid (HG.out.drew ⟨nq, rfl⟩)
        clear g0 g1 g2 HI1 h4 h6 hqi
        have HD : Hid (Drew w (w.drewN nq)) := Lib.hid ⟨_, rfl⟩
        generalize w.drewN nq = w1 at *
        obtain ⟨g0, g1, g2⟩ := HG.out
        clear g0
        go_wp2
        go_loopw [3] (fun i wr => ∃ k : Nat, k ≤ b.cells.size ∧ i = .int .i64 k ∧ Hid (upTo cellB b.cells k) ∧ Hid (upTo premB b.premium k) ∧ w1 = wr) (fun i _ => b.cells.size - (intOf i).toNat)
        case atStart => exact ⟨0, Nat.zero_le _, rfl, Lib.hid (upTo.zero _ _), Lib.hid (upTo.zero _ _), rfl⟩
        case round =>
          obtain ⟨k, hk, rfl, HA, HB, rfl⟩ := hrel
          by_cases hlt : k < b.cells.size
          · have hlp : k < b.premium.size := by have := H3.out; have := H5.out; omega
            cases hsm : cellB b.cells[k].toNat with
            | false =>
              have HE : Hid (b.ok = false) := Lib.hid (by rw [HN.out, show allC b.cells = false from all_get hlt hsm, Bool.and_false])
              go_wp2_with fail
              refine (l11Cell_any _ _).mono ?_
              rintro e w' ⟨rfl, rfl⟩
              rw [hsm]
              clear hsm
              go_wp2
              go_ret
              exact ⟨ret_bool HE.out.symm, HD.out⟩
            | true =>
              have HA2 : Hid (upTo cellB b.cells (k + 1)) := Lib.hid (all_step hlt HA.out hsm)
              cases hpm : premB b.premium[k].toNat with
              | false =>
                have HE : Hid (b.ok = false) := Lib.hid (by rw [HN.out, show allP b.premium = false from all_get hlp hpm, Bool.false_and])
                go_wp2_with fail
                refine (l11Cell_any _ _).mono ?_
                rintro e w' ⟨rfl, rfl⟩
                rw [hsm]
                clear hsm
                go_wp2_with fail
                refine (l11Premium_any _ _).mono ?_
                rintro e w' ⟨rfl, rfl⟩
                rw [hpm]
                clear hpm
                go_wp2
                go_ret
                exact ⟨ret_bool HE.out.symm, HD.out⟩
              | true =>
                have HB2 : Hid (upTo premB b.premium (k + 1)) := Lib.hid (all_step hlp HB.out hpm)
                go_wp2_with fail
                refine (l11Cell_any _ _).mono ?_
                rintro e w' ⟨rfl, rfl⟩
                rw [hsm]
                clear hsm
                go_wp2_with fail
                refine (l11Premium_any _ _).mono ?_
                rintro e w' ⟨rfl, rfl⟩
                rw [hpm]
                clear hpm
                go_wp2
                go_roundw
                case rel => exact ⟨k + 1, by omega, by go_num, HA2, HB2, trivial⟩
                case measure => simp [intOf]; omega
          · have HE : Hid (b.ok = true) := Lib.hid (by
              have h3 := H3.out
              have h5 := H5.out
              rw [HN.out, show allP b.premium = true from all_end (k := k) (by omega) HB.out, show allC b.cells = true from all_end (k := k) (by omega) HA.out]; rfl)
            go_wp2
            go_ret
            exact ⟨ret_bool HE.out.symm, HD.out⟩
      · have h6 : ((b.cells.size : Int) != (q : Int)) = true := by simp; omega
        have HN : Hid (b.ok = false) := Lib.hid (HN2.out (by omega))
        have H3 := Lib.hid h3
        clear HN1 HN2 HY h3 h5
        go_enter Tryz.func74, Tryz.ntmps74
        go_wp2_with fail
        go_quiet ((go_at_call 100; exact quiet_of_eq (HI1.out _)))
        go_wp2
        go_ret
        exact ⟨ret_bool HN.out.symm, ⟨_, rfl⟩⟩
    · have h4 : ((b.premium.size : Int) != (q : Int)) = true := by simp; omega
      have HN : Hid (b.ok = false) := Lib.hid (HN1.out (by rw [HSZ.out, HQ.out]; omega))
      clear HN1 HN2 HY h3
      go_enter Tryz.func74, Tryz.ntmps74
      go_wp2_with fail
      go_quiet ((go_at_call 100; exact quiet_of_eq (HI1.out _)))
      go_wp2
      go_ret
      exact ⟨ret_bool HN.out.symm, ⟨_, rfl⟩⟩
end Go.Proofs.YtjdcdhhbgijaoaaGreatDoor
