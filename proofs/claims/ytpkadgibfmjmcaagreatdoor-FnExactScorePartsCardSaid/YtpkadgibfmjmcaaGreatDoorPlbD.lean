/- Contract: the program's board after a play. For valid plays on valid boards. -/
import Derived.Test.YtpkadgibfmjmcaaGreatDoorPlbC
namespace Go.Proofs.YtpkadgibfmjmcaaGreatDoor
open Go.ChangeShapes Go.WideShapes Go.ChangeAt Go.RowKit Go.Sort

/-! ### Plain -/
def Ply.idx (p : Ply) (n k : Nat) : Nat := (p.sr k * n + p.sc k).toNat
def madeK (n : Nat) (p : Ply) (L : List UInt8) : Nat → List UInt8
  | 0 => L
  | k + 1 => (madeK n p L k).set (p.idx n k) (p.word.data.toList.getD k 0)
def Brd.made (b : Brd) (p : Ply) : Brd := ⟨b.size, b.premium, mkB (madeK b.size.toNat p b.cells.data.toList p.word.size)⟩
theorem madeK_len (n : Nat) (p : Ply) (L : List UInt8) : ∀ k, (madeK n p L k).length = L.length
  | 0 => rfl
  | k + 1 => by rw [madeK, List.length_set, madeK_len n p L k]
theorem madeK_all {n : Nat} {p : Ply} {L : List UInt8} {f : UInt8 → Bool} (h : L.all f = true) : ∀ k, k ≤ p.word.size → p.word.data.toList.all f = true → (madeK n p L k).all f = true
  | 0, _, _ => h
  | k + 1, hk, hw => by
    rw [madeK, List.all_eq_true]
    intro x hx
    rcases List.mem_or_eq_of_mem_set hx with h1 | h1
    · exact List.all_eq_true.1 (madeK_all h k (by omega) hw) x h1
    · rw [h1, getD_byt (by omega)]
      exact List.all_eq_true.1 hw _ (by rw [← bytes_get p.word k (by omega)]; exact List.getElem_mem _)
/-- the squares of a valid play lie on the board -/
theorem PGood.sq_in {b : Brd} {p : Ply} {n : Nat} (h : PGood b p n) {k : Nat} (hk : k < p.word.size) : (0 ≤ p.sr k ∧ p.sr k < n) ∧ 0 ≤ p.sc k ∧ p.sc k < n := by
  have h1 := h.r0
  have h2 := h.r1
  have h3 := h.c0
  have h4 := h.c1
  unfold Ply.r at h1 h2
  unfold Ply.c at h3 h4
  unfold Ply.sr Ply.sc
  cases hd : p.down <;> rw [hd] at h1 h2 h3 h4 <;> simp only [if_true, if_false, Bool.false_eq_true] at h1 h2 h3 h4 ⊢ <;> omega
theorem PGood.idx_lt {b : Brd} {p : Ply} {n : Nat} (h : PGood b p n) {k : Nat} (hk : k < p.word.size) : ∃ i j : Nat, p.sr k = i ∧ p.sc k = j ∧ i < n ∧ j < n ∧ p.idx n k = i * n + j ∧ i * n + j < b.cells.size := by
  obtain ⟨⟨a1, a2⟩, a3, a4⟩ := h.sq_in hk
  obtain ⟨i, hi⟩ := Int.eq_ofNat_of_zero_le a1
  obtain ⟨j, hj⟩ := Int.eq_ofNat_of_zero_le a3
  have hl := h.good.get (r := i) (c := j) (by omega) (by omega)
  refine ⟨i, j, hi, hj, by omega, by omega, ?_, hl⟩
  unfold Ply.idx
  rw [hi, hj, ← Int.natCast_mul, ← Int.natCast_add, Int.toNat_natCast]
theorem PGood.made_good {b : Brd} {p : Ply} {n : Nat} (h : PGood b p n) : (b.made p).Good n := by
  refine ⟨h.good.size, h.good.lo, h.good.hi, h.good.prem, ?_, h.good.okP, ?_⟩
  · unfold Brd.made
    rw [mkB_size, madeK_len]
    have := h.good.cells
    simpa using this
  · unfold Brd.made allC
    rw [mkB_data]
    refine madeK_all h.good.okC _ (Nat.le_refl _) ?_
    rw [List.all_eq_true]
    intro x hx
    have := List.all_eq_true.1 h.letters x hx
    unfold letB at this
    unfold cellB
    rw [Bool.or_assoc, this, Bool.or_true]
theorem madeK_in {n : Nat} {p : Ply} {L : List UInt8} (hinj : ∀ i j, i < p.word.size → j < p.word.size → p.idx n i = p.idx n j → i = j) (hlt : ∀ i, i < p.word.size → p.idx n i < L.length) :
    ∀ k, k ≤ p.word.size → ∀ i, i < k → (madeK n p L k).getD (p.idx n i) 0 = p.word.data.toList.getD i 0
  | 0, _, i, hi => by omega
  | k + 1, hk, i, hi => by
    rw [madeK, List.getD_eq_getElem?_getD, List.getElem?_set]
    by_cases e : p.idx n k = p.idx n i
    · rw [if_pos e]
      have := hinj k i (by omega) (by omega) e
      subst this
      rw [if_pos (by rw [madeK_len]; exact hlt k (by omega))]
      rfl
    · rw [if_neg e]
      have hik : i ≠ k := fun e2 => e (by rw [e2])
      have := madeK_in hinj hlt k (by omega) i (by omega)
      rwa [List.getD_eq_getElem?_getD] at this
theorem madeK_out {n : Nat} {p : Ply} {L : List UInt8} {x : Nat} : ∀ k, (∀ i, i < k → p.idx n i ≠ x) → (madeK n p L k).getD x 0 = L.getD x 0
  | 0, _ => rfl
  | k + 1, h => by
    rw [madeK, List.getD_eq_getElem?_getD, List.getElem?_set, if_neg (h k (by omega))]
    have := madeK_out (n := n) (p := p) (L := L) k (fun i hi => h i (by omega))
    rwa [List.getD_eq_getElem?_getD] at this
theorem mul_inj {n i j i' j' : Nat} (hj : j < n) (hj' : j' < n) (h : i * n + j = i' * n + j') : i = i' ∧ j = j' := by
  have h1 : (i * n + j) / n = i := by rw [Nat.mul_comm, Nat.mul_add_div (by omega), Nat.div_eq_of_lt hj]; omega
  have h2 : (i' * n + j') / n = i' := by rw [Nat.mul_comm, Nat.mul_add_div (by omega), Nat.div_eq_of_lt hj']; omega
  have e : i = i' := by rw [← h1, h, h2]
  subst e
  exact ⟨rfl, by omega⟩
theorem PGood.idx_inj {b : Brd} {p : Ply} {n : Nat} (h : PGood b p n) : ∀ i j, i < p.word.size → j < p.word.size → p.idx n i = p.idx n j → i = j := by
  intro i j hi hj he
  obtain ⟨a, c, e1, e2, l1, l2, e3, _⟩ := h.idx_lt hi
  obtain ⟨a', c', f1, f2, m1, m2, f3, _⟩ := h.idx_lt hj
  rw [e3, f3] at he
  obtain ⟨g1, g2⟩ := mul_inj l2 m2 he
  subst g1 g2
  unfold Ply.sr at e1 f1
  unfold Ply.sc at e2 f2
  cases hd : p.down <;> rw [hd] at e1 e2 f1 f2 <;> simp only [if_true, if_false, Bool.false_eq_true] at e1 e2 f1 f2 <;> omega
/-- the board after the play, seen across: its word in its row, all else as it was -/
theorem PGood.made_in {b : Brd} {p : Ply} {n : Nat} (h : PGood b p n) {k : Nat} (hk : k < p.word.size) : (b.made p).view p p.r (p.c + k) = p.word.data.toList.getD k 0 := by
  have e := h.made_good.sq p k
  have e2 : (b.made p).view p p.r (p.c + k) = (b.made p).cell (p.sr k) (p.sc k) := e.symm
  rw [e2]
  obtain ⟨i, j, e1, e2, l1, l2, e3, hl⟩ := h.idx_lt hk
  have hg := h.made_good
  have hl2 : i * n + j < (b.made p).cells.size := by rw [hg.cells, ← h.good.cells]; exact hl
  rw [e1, e2, hg.cell_in l1 l2 rfl hl2, ← getD_byt hl2]
  show (mkB (madeK b.size.toNat p b.cells.data.toList p.word.size)).data.toList.getD _ 0 = _
  rw [mkB_data, ← e3, show b.size.toNat = n from by rw [h.good.size]; simp]
  exact madeK_in h.idx_inj (fun i hi => by
    obtain ⟨_, _, _, _, _, _, f3, fl⟩ := h.idx_lt hi
    rw [f3]; simpa using fl) _ (Nat.le_refl _) k hk
theorem PGood.made_out {b : Brd} {p : Ply} {n : Nat} (h : PGood b p n) {R C : Int} (ho : R ≠ p.r ∨ C < p.c ∨ p.c + p.word.size ≤ C) : (b.made p).view p R C = b.view p R C := by
  have hs : (b.made p).view p R C = (b.made p).cell (if p.down then C else R) (if p.down then R else C) := by
    rw [h.made_good.view]; cases p.down <;> rfl
  have hs2 : b.view p R C = b.cell (if p.down then C else R) (if p.down then R else C) := by
    rw [h.good.view]; cases p.down <;> rfl
  rw [hs, hs2]
  generalize hx : (if p.down then C else R) = x at *
  generalize hy : (if p.down then R else C) = y at *
  have hin : (b.made p).inB x y = b.inB x y := rfl
  cases hi : b.inB x y with
  | false => rw [Brd.cell_out hi, Brd.cell_out (hin.trans hi)]
  | true =>
    have hi2 := h.good.inB.1 hi
    obtain ⟨i, rfl⟩ := Int.eq_ofNat_of_zero_le hi2.1.1
    obtain ⟨j, rfl⟩ := Int.eq_ofNat_of_zero_le hi2.2.1
    have hl := h.good.get (r := i) (c := j) (by omega) (by omega)
    have hg := h.made_good
    have hl2 : i * n + j < (b.made p).cells.size := by rw [hg.cells, ← h.good.cells]; exact hl
    rw [hg.cell_in (by omega) (by omega) rfl hl2, h.good.cell_in (by omega) (by omega) rfl hl, ← getD_byt hl2, ← getD_byt hl]
    show (mkB (madeK b.size.toNat p b.cells.data.toList p.word.size)).data.toList.getD _ 0 = _
    rw [mkB_data, show b.size.toNat = n from by rw [h.good.size]; simp]
    refine madeK_out _ fun k hk e => ?_
    obtain ⟨a, c, e1, e2, l1, l2, e3, _⟩ := h.idx_lt hk
    rw [e3] at e
    obtain ⟨g1, g2⟩ := mul_inj l2 (by omega) e
    subst g1 g2
    unfold Ply.sr at e1
    unfold Ply.sc at e2
    unfold Ply.r Ply.c at ho
    cases hd : p.down <;> rw [hd] at e1 e2 ho hx hy <;> simp only [if_true, if_false, Bool.false_eq_true] at e1 e2 ho hx hy <;> omega
end Go.Proofs.YtpkadgibfmjmcaaGreatDoor
