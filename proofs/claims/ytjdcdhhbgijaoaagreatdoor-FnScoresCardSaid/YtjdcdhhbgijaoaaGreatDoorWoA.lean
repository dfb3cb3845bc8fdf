/- Plain definitions: the rows of a board's text. Contract: the program's rows of a board. Fo · Contracts: the program's boards turned over. For valid boards. -/
import Derived.Test.YtjdcdhhbgijaoaaGreatDoorBrI
import Derived.Deep.AppendLies
import Derived.Laws.OwnMore
import Derived.Deep.OwnRows
import Derived.Deep.RegionHeld3
namespace Go.Proofs.YtjdcdhhbgijaoaaGreatDoor
open Go.ChangeShapes Go.WideShapes Go.ChangeAt Go.RowKit Go.Sort

structure Cuts (n k s0 s1 : Nat) : Prop where
  p0 : (k : Int) * (n : Int) = (s0 : Int)
  p1 : ((k : Int) + 1) * (n : Int) = (s1 : Int)
  w0 : IntKind.i64.wrap (s0 : Int) = s0
  w1 : IntKind.i64.wrap (s1 : Int) = s1
  le : s0 ≤ s1
  hi : s1 ≤ n * n
end Go.Proofs.YtjdcdhhbgijaoaaGreatDoor
namespace Go.Proofs.YtjdcdhhbgijaoaaGreatDoor
open Go.ChangeShapes Go.WideShapes Go.ChangeAt Go.RowKit Go.Sort

/-- a row of n * n bytes of which k are written -/
def updB (n : Nat) (L : List UInt8) (k : Nat) : List UInt8 := (turnB n L).take k ++ List.replicate (n * n - k) 0
theorem updB_len {n : Nat} {L : List UInt8} {k : Nat} (h : k ≤ n * n) : (updB n L k).length = n * n := by
  unfold updB
  rw [List.length_append, List.length_take, turnB_len, List.length_replicate]
  omega
theorem updB_zero (n : Nat) (L : List UInt8) : updB n L 0 = List.replicate (n * n) 0 := by simp [updB]
theorem updB_all (n : Nat) (L : List UInt8) : updB n L (n * n) = turnB n L := by
  unfold updB
  rw [List.take_of_length_le (by rw [turnB_len]; exact Nat.le_refl _)]
  simp
theorem updB_next {n : Nat} {L : List UInt8} {k : Nat} (h : k < n * n) : (updB n L k).set k (L.getD (k % n * n + k / n) 0) = updB n L (k + 1) := by
  have hl : k < (turnB n L).length := by rw [turnB_len]; exact h
  have e : (turnB n L)[k]'hl = L.getD (k % n * n + k / n) 0 := by simp [turnB]
  unfold updB
  rw [List.set_append_right _ _ (by rw [List.length_take]; omega), List.take_succ_eq_append_getElem hl, e]
  have h1 : k - ((turnB n L).take k).length = 0 := by rw [List.length_take]; omega
  rw [h1]
  obtain ⟨m, hm⟩ : ∃ m, n * n - k = m + 1 := ⟨n * n - k - 1, by omega⟩
  have h2 : n * n - (k + 1) = m := by omega
  rw [hm, h2, List.replicate_succ, List.set_cons_zero, List.append_assoc]
  rfl
theorem row_made (w : World) (m : Nat) : RowB (w.alloc (.cells (madeCells #[.int .u8 0] m) 5)) w.heap.size (List.replicate m 0) := by
  refine ⟨madeCells #[.int .u8 0] m, _, _, heap_alloc_new w _, by rw [List.length_replicate, size_madeCells]; exact Nat.le_refl _, .inr rfl, ?_⟩
  rw [toList_madeCells_one, List.length_replicate, List.take_of_length_le (by rw [List.length_replicate]; exact Nat.le_refl _), List.map_replicate]
  rfl
theorem at_div {n k : Nat} (hk : k < n * n) (hn : 0 < n) : k % n * n + k / n < n * n := by
  have h1 : k / n < n := Nat.div_lt_of_lt_mul hk
  exact row_ltn (Nat.mod_lt _ hn) h1
set_option maxRecDepth 100000 in
set_option maxHeartbeats 4000000 in
theorem transposed_any (s : ByteArray) (n : Nat) (w : World) (h5 : 5 ≤ n) (hn : n ≤ 15) (hz : s.size = n * n) :
    Calls Tryz.prog 172 #[.string s, .int .i64 n] w (StrPost w (turnB n s.data.toList)) := by
  have hq225 : s.size ≤ 225 := by rw [hz]; exact sq_mono hn
  have hmk : ∀ W : World, (Instr.makeSlice 22 (.int .i64 (s.size : Int)) (.int .i64 (s.size : Int))).run Tryz.prog W = .ok (.slice (some ⟨W.heap.size, 0, none⟩) s.size s.size) (W.alloc (.cells (madeCells #[.int .u8 0] s.size) 5)) := fun W =>
    run_make_row' _ _ _ 1 Tryz.underlying22 infoByte rfl _ _ s.size (by omega) (by omega) W
  have hb : Below w.heap.size w (w.alloc (.cells (madeCells #[.int .u8 0] s.size) 5)) := (Below.refl _ _).alloc (Nat.le_refl _) _
  have HR : Hid (RowB (w.alloc (.cells (madeCells #[.int .u8 0] s.size) 5)) w.heap.size (updB n s.data.toList 0)) := Lib.hid (by rw [updB_zero, ← hz]; exact row_made w s.size)
  have HLN : Hid (∀ k, k ≤ s.size → (updB n s.data.toList k).length = s.size) := Lib.hid (fun k h => by rw [updB_len (by omega), hz])
  have HNX : Hid (∀ k, k < s.size → ∃ (i j m : Nat) (hi : m + j < s.size), (k : Int) % (n : Int) = i ∧ (k : Int) / (n : Int) = j ∧ (i : Int) * (n : Int) = m ∧ i ≤ 225 ∧ j ≤ 225 ∧ m ≤ 225 ∧ (updB n s.data.toList k).set k s[m + j] = updB n s.data.toList (k + 1)) := Lib.hid (fun k h => by
    have h1 := at_div (n := n) (k := k) (by omega) (by omega)
    have h2 : k % n * n + k / n < s.size := by omega
    have h3 : k / n ≤ k := Nat.div_le_self k n
    have h4 : k % n ≤ k := Nat.mod_le k n
    have h5 : k % n * n ≤ 225 := Nat.le_trans (Nat.le_add_right _ (k / n)) (Nat.le_of_lt (Nat.lt_of_lt_of_le h2 hq225))
    refine ⟨k % n, k / n, k % n * n, h2, by push_cast; rfl, by push_cast; rfl, by push_cast; rfl, by omega, by omega, h5, ?_⟩
    rw [← updB_next (by omega), getD_byt h2])
  have HAL : Hid (updB n s.data.toList s.size = turnB n s.data.toList) := Lib.hid (by rw [hz, updB_all])
  generalize hP : turnB n s.data.toList = P at *
  generalize updB n s.data.toList = U at *
  have hn0 : ¬ (n : Int) = 0 := by omega
  clear hz hP
  go_enter Tryz.func172, Tryz.ntmps172
  go_upto_region 2 with fail
  clear hmk
  generalize w.alloc (.cells (madeCells #[.int .u8 0] s.size) 5) = w1 at *
  go_wp2_with fail
  go_loopw [14] (fun rv wr => ∃ k : Nat, k ≤ s.size ∧ rv = .int .i64 k ∧ Hid (RowB wr w.heap.size (U k)) ∧ Below w.heap.size w wr) (fun rv _ => s.size - (intOf rv).toNat)
  case atStart => exact ⟨0, Nat.zero_le _, rfl, HR, hb⟩
  case round =>
    clear HR hb
    obtain ⟨k, hk, rfl, HR, hb⟩ := hrel
    by_cases hlt : k < s.size
    · obtain ⟨i, j, m, hmj, e1, e2, e3, hi, hj, hm, e4⟩ := HNX.out k hlt
      have hlen := HLN.out k hk
      have t1 : (k : Int).tdiv (n : Int) = (k : Int) / n := Int.tdiv_eq_ediv_of_nonneg (by omega)
      have t2 : (k : Int).tmod (n : Int) = (k : Int) % n := Int.tmod_eq_emod_of_nonneg (by omega)
      have wj : IntKind.i64.wrap (j : Int) = j := IntWalk.i64_in _ (by omega)
      have wm : IntKind.i64.wrap (m : Int) = m := IntWalk.i64_in _ (by omega)
      have wmj : IntKind.i64.wrap ((m : Int) + (j : Int)) = (m : Int) + j := IntWalk.i64_in _ (by omega)
      clear HNX HAL
      go_upto_region 5 with fail
      go_quiet (fail)
      have hd : Below wr.heap.size wr (wr.drewN nq) := (Drew.drewN (Drew.refl _) nq).below _
      replace HR := Lib.hid (HR.out.kept hd)
      replace hb := hb.trans (hd.mono hb.size)
      clear hd
      generalize wr.drewN nq = w9 at *
      have c0 := HR.out.cell (i := k) (by rw [hlen]; exact hlt)
      have f0 := HR.out.free (i := k) (by rw [hlen]; exact hlt)
      obtain ⟨r2, g2⟩ := HR.out.set k s[m + j]
      rw [e4] at r2
      have HR2 := Lib.hid r2
      have hb2 := hb.grown g2 hb.size (fun q e => by cases e; exact Nat.le_refl _)
      clear r2 g2 HR hb HLN e4
      go_wp2
      go_roundw
      case rel => exact ⟨k + 1, by omega, by go_num, HR2, hb2⟩
      case measure => simp [intOf]; omega
    · obtain rfl : k = s.size := by omega
      have hcv := HR.out.str (n := s.size) (cap := s.size) (HLN.out _ (Nat.le_refl _)).symm
      rw [HAL.out] at hcv
      clear HR HLN HNX HAL
      go_wp2
      go_ret
      exact ⟨rfl, hb⟩
end Go.Proofs.YtjdcdhhbgijaoaaGreatDoor
