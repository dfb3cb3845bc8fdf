/- Contracts: the program's slots of a grid, a slot's squares, and whether a word fits a pattern. For grids of at most 5 rows and columns, and words of ASCII bytes. -/
import Derived.Test.YtjknpmdmchlfcaaGrH
import Derived.Test.YtjknpmdmchlfcaaItr
namespace Go.Proofs.Ytjknpmdmchlfcaa
open Go.ChangeShapes Go.WideShapes Go.ChangeAt Go.RowKit Go.Sort

/-- only bytes below 128 -/
def Ascii (x : ByteArray) : Prop := ∀ k (h : k < x.size), (x[k]).toNat < 128
set_option maxRecDepth 100000 in
set_option maxHeartbeats 2000000 in
theorem gindex_any (R C : Nat) (gs : ByteArray) (s : Slt) (k : Nat) (w : World) (h1 : s.row ≤ 25) (h2 : s.col ≤ 25) (hC : C ≤ 5) (hk : k ≤ 100) :
    Calls Try.prog 108 #[.agg #[.int .i64 R, .int .i64 C, .string gs], .agg #[.int .i64 (s.row : Int), .int .i64 (s.col : Int), .bool s.down, .int .i64 (s.len : Int)], .int .i64 k] w fun e w' => e = .returned (.int .i64 (sqr C s k : Int)) ∧ Below w.heap.size w w' := by
  have hb : Below w.heap.size w ((w.alloc (.cells #[.int .i64 R, .int .i64 C, .string gs] 31)).alloc (.cells #[.int .i64 (s.row : Int), .int .i64 (s.col : Int), .bool s.down, .int .i64 (s.len : Int)] 114)) := ((Below.refl _ _).alloc (Nat.le_refl _) _).alloc (by simp) _
  cases hd : s.down with
  | true =>
    rw [hd] at hb
    obtain ⟨q, hq⟩ : ∃ q, q = (s.row + k) * C := ⟨_, rfl⟩
    have hqi : ((s.row : Int) + (k : Int)) * (C : Int) = (q : Int) := by rw [hq]; push_cast; rfl
    have hq3 : q ≤ 625 := by rw [hq]; exact Nat.mul_le_mul (show s.row + k ≤ 125 by omega) hC
    have HX : Hid ((sqr C s k : Int) = (q : Int) + (s.col : Int)) := Lib.hid (by unfold sqr; rw [hd, hq]; simp)
    clear hq hd
    go_enter Try.func108, Try.ntmps108
    go_wp2
    go_ret
    exact ⟨ret_int HX.out.symm, hb⟩
  | false =>
    rw [hd] at hb
    obtain ⟨q, hq⟩ : ∃ q, q = s.row * C := ⟨_, rfl⟩
    have hqi : (s.row : Int) * (C : Int) = (q : Int) := by rw [hq]; push_cast; rfl
    have hq3 : q ≤ 125 := by rw [hq]; exact Nat.mul_le_mul h1 hC
    have HX : Hid ((sqr C s k : Int) = (q : Int) + (s.col : Int) + (k : Int)) := Lib.hid (by unfold sqr; rw [hd, hq]; simp)
    clear hq hd
    go_enter Try.func108, Try.ntmps108
    go_wp2
    go_ret
    exact ⟨ret_int HX.out.symm, hb⟩
set_option maxRecDepth 100000 in
set_option maxHeartbeats 4000000 in
theorem fitsPattern_any (p x : ByteArray) (w : World) (_hp : p.size ≤ 9223372036854775807) (_hx : x.size ≤ 9223372036854775807) (ha : Ascii x) :
    Calls Try.prog 107 #[.string p, .string x] w fun e w' => e = .returned (.bool (fitsL p.data.toList x.data.toList)) ∧ Below w.heap.size w w' := by
  have hl1 : p.data.toList.length = p.size := by simp
  have hl2 : x.data.toList.length = x.size := by simp
  have HL1 := Lib.hid hl1
  have HL2 := Lib.hid hl2
  have HAS := Lib.hid ha
  clear hl1 hl2 ha
  by_cases hlen : p.size = x.size
  · have hn : ((p.size : Int) != (x.size : Int)) = false := by rw [hlen]; simp
    have hn2 : ((p.size : Int) == (x.size : Int)) = true := by rw [hlen]; simp
    have HE := Lib.hid hlen
    have HI := Lib.hid (IterAt.new w x)
    have hb := iter_below w x
    clear hlen
    go_enter Try.func107, Try.ntmps107
    go_wp2_with fail
    clear hn hn2
    go_loopw [5] (fun _ wr => ∃ k : Nat, k ≤ x.size ∧ Hid (IterAt wr w.heap.size x k) ∧ Hid (fitsL p.data.toList x.data.toList = fitsL (p.data.toList.drop k) (x.data.toList.drop k)) ∧ Below w.heap.size w wr) (fun _ wr => x.size - wr.iterPos w.heap.size)
    case atStart => exact ⟨0, Nat.zero_le _, HI, Lib.hid rfl, hb⟩
    case round =>
      clear HI hb
      obtain ⟨k, hk, HI, HA, hb⟩ := hrel
      by_cases hlt : k < x.size
      · have hlp : k < p.size := by rw [HE.out]; exact hlt
        have HST : Hid (fitsL p.data.toList x.data.toList = ((p[k] == 46 || p[k] == x[k]) && fitsL (p.data.toList.drop (k + 1)) (x.data.toList.drop (k + 1)))) := Lib.hid (by
          rw [HA.out, fits_step (by rw [HL1.out]; exact hlp) (by rw [HL2.out]; exact hlt)]; rfl)
        obtain ⟨w', hnx, hi2, hg2⟩ := next_at (P := Try.prog) HI.out hlt (HAS.out k hlt)
        have HP := Lib.hid HI.out.pos
        have hb2 := hb.grown hg2 hb.size (fun q h => by cases h; exact Nat.le_refl _)
        have HI2 := Lib.hid hi2
        clear HA hi2 hg2
        by_cases h1 : p[k] = 46
        · have q1 : ((p[k].toNat : Int) == 46) = true := by rw [h1]; rfl
          have q2 : ((p[k].toNat : Int) != 46) = false := by rw [h1]; rfl
          have HN : Hid (fitsL p.data.toList x.data.toList = fitsL (p.data.toList.drop (k + 1)) (x.data.toList.drop (k + 1))) := Lib.hid (by rw [HST.out, h1]; simp)
          clear h1
          go_wp2_with fail
          go_quiet (fail)
          have hd := Drew.bel (a := w') ⟨nq, rfl⟩
          clear hnx
          go_wp2
          go_roundw
          case rel => exact ⟨k + 1, by omega, Lib.hid (HI2.out.kept hd), HN, hb2.trans (hd.mono hb2.size)⟩
          case measure => rw [HP.out, (HI2.out.kept hd).pos]; omega
        · have q1 : ((p[k].toNat : Int) == 46) = false := beq_eq_false_iff_ne.2 (fun e => h1 (UInt8.toNat_inj.1 (by have h46 : (46 : UInt8).toNat = 46 := rfl; omega)))
          have q2 : ((p[k].toNat : Int) != 46) = true := by rw [bne, q1]; rfl
          by_cases h2 : p[k] = x[k]
          · have q3 : ((p[k].toNat : Int) == (x[k].toNat : Int)) = true := by rw [h2]; simp
            have q4 : ((p[k].toNat : Int) != (x[k].toNat : Int)) = false := by rw [h2]; simp
            have HN : Hid (fitsL p.data.toList x.data.toList = fitsL (p.data.toList.drop (k + 1)) (x.data.toList.drop (k + 1))) := Lib.hid (by rw [HST.out, h2]; simp)
            clear h1 h2
            go_wp2_with fail
            go_quiet (fail)
            have hd := Drew.bel (a := w') ⟨nq, rfl⟩
            clear hnx
            go_wp2
            go_roundw
            case rel => exact ⟨k + 1, by omega, Lib.hid (HI2.out.kept hd), HN, hb2.trans (hd.mono hb2.size)⟩
            case measure => rw [HP.out, (HI2.out.kept hd).pos]; omega
          · have q3 : ((p[k].toNat : Int) == (x[k].toNat : Int)) = false := beq_eq_false_iff_ne.2 (fun e => h2 (UInt8.toNat_inj.1 (by omega)))
            have q4 : ((p[k].toNat : Int) != (x[k].toNat : Int)) = true := by rw [bne, q3]; rfl
            have HN : Hid (fitsL p.data.toList x.data.toList = false) := Lib.hid (by rw [HST.out]; simp [h1, h2])
            clear h1 h2
            go_wp2_with fail
            go_quiet (fail)
            have hd := Drew.bel (a := w') ⟨nq, rfl⟩
            clear hnx
            go_wp2
            go_ret
            exact ⟨ret_bool HN.out.symm, hb2.trans (hd.mono hb2.size)⟩
      · have hnx := next_end (P := Try.prog) HI.out hlt
        obtain rfl : k = x.size := by omega
        have HN : Hid (fitsL p.data.toList x.data.toList = true) := Lib.hid (by rw [HA.out]; exact fits_end (by rw [HL1.out, HE.out]; exact Nat.le_refl _) (by rw [HL2.out]; exact Nat.le_refl _))
        go_wp2
        go_ret
        exact ⟨ret_bool HN.out.symm, hb⟩
  · have hn : ((p.size : Int) != (x.size : Int)) = true := by simp; omega
    have hn2 : ((p.size : Int) == (x.size : Int)) = false := by simp; omega
    have HN : Hid (fitsL p.data.toList x.data.toList = false) := Lib.hid (by
      cases h : fitsL p.data.toList x.data.toList with
      | false => rfl
      | true => exact absurd (fits_len _ _ h) (by rw [HL1.out, HL2.out]; exact hlen))
    clear hlen
    go_enter Try.func107, Try.ntmps107
    go_wp2
    go_ret
    exact ⟨ret_bool HN.out.symm, Below.refl _ _⟩
end Go.Proofs.Ytjknpmdmchlfcaa
