/- Contracts: the comparisons of two rows of numbers, of strings (the reference's and slices.Equal). No condition but that a length fits an int. -/
import Derived.Test.YtalnbgcdhcnjfaaVar
import Derived.Test.YtalnbgcdhcnjfaaTx
namespace Go.Proofs.Ytalnbgcdhcnjfaa
open Go.ChangeShapes Go.WideShapes Go.ChangeAt Go.RowKit Go.Sort

theorem Drew.bel {a b : World} (h : Drew a b) : Below a.heap.size a b := h.below _

theorem str_ne {x y : ByteArray} (h : ¬ x = y) : (x.toList == y.toList) = false :=
  beq_eq_false_iff_ne.2 fun e => h (ByteArray.ext (Array.toList_inj.1 (by rw [← ByteArray.toList_eq, ← ByteArray.toList_eq]; exact e)))
theorem take_next {α : Type} {xs ys : List α} {k : Nat} (h : xs.take k = ys.take k) (hx : k < xs.length) (hy : k < ys.length) (e : xs[k] = ys[k]) : xs.take (k + 1) = ys.take (k + 1) := by
  rw [List.take_succ_eq_append_getElem hx, List.take_succ_eq_append_getElem hy, h, e]
set_option maxRecDepth 100000 in
set_option maxHeartbeats 4000000 in
theorem l00Same_any (xs ys : List Int) (a b : Option Addr) (ca cb : Nat) (w : World) (ha : SliceAt w 1 I64.enc a xs) (hb : SliceAt w 1 I64.enc b ys) (hl : xs.length ≤ 9223372036854775807) (hm : ys.length ≤ 9223372036854775807) :
    Calls Try.prog 21 #[.slice a xs.length ca, .slice b ys.length cb] w fun e w' => e = .returned (.bool (decide (xs = ys))) ∧ Drew w w' := by
  have HA := Lib.hid ha; clear ha
  have HB := Lib.hid hb; clear hb
  by_cases hn : xs.length = ys.length
  · have HE : Hid (∀ k, xs.length ≤ k → xs.take k = ys.take k → xs = ys) := Lib.hid (fun k h1 h2 => by
      rw [List.take_of_length_le h1, List.take_of_length_le (by omega)] at h2; exact h2)
    have HL := Lib.hid hn
    go_enter Try.func21, Try.ntmps21
    rw [← hn]
    clear hn
    go_wp2_with fail
    go_loopw [5] (fun iv wr => ∃ k : Nat, k ≤ xs.length ∧ iv = .int .i64 k ∧ Hid (xs.take k = ys.take k) ∧ Drew w wr) (fun iv _ => xs.length - (intOf iv).toNat)
    case atStart => exact ⟨0, Nat.zero_le _, rfl, Lib.hid rfl, ⟨0, rfl⟩⟩
    case round =>
      obtain ⟨k, hk, rfl, HT, hd⟩ := hrel
      by_cases hlt : k < xs.length
      · obtain ⟨ab, ao, rfl, hca⟩ := (HA.out.kept (hd.below _)).open hlt
        have hlt2 : k < ys.length := by have := HL.out; omega
        obtain ⟨bb, bo, rfl, hcb⟩ := (HB.out.kept (hd.below _)).open hlt2
        have a0 := hca.at0 hlt (v := .int .i64 xs[k]) rfl
        have b0 := hcb.at0 hlt2 (v := .int .i64 ys[k]) rfl
        rw [Nat.mul_one] at a0 b0
        have HN := Lib.hid (fun e => take_next HT.out hlt hlt2 e)
        have HD : Hid (xs[k] ≠ ys[k] → decide (xs = ys) = false) := Lib.hid (fun h => decide_eq_false fun e => h (by subst e; rfl))
        generalize xs[k] = x at *
        generalize ys[k] = y at *
        clear hca hcb
        by_cases hxy : x = y
        · subst hxy
          go_wp2_with fail
          go_quiet (fail)
          go_wp2
          go_roundw
          case rel => exact ⟨k + 1, by omega, by go_num, Lib.hid (HN.out (by trivial)), hd.trans ⟨_, rfl⟩⟩
          case measure => simp [intOf]; omega
        · have hne : (x == y) = false := beq_eq_false_iff_ne.2 hxy
          go_wp2_with fail
          go_quiet (fail)
          go_wp2
          go_ret
          exact ⟨ret_bool (HD.out hxy).symm, hd.trans ⟨_, rfl⟩⟩
      · have hx : decide (xs = ys) = true := decide_eq_true (HE.out k (by omega) HT.out)
        go_wp2
        go_ret
        exact ⟨ret_bool hx.symm, hd⟩
  · have HD : Hid (decide (xs = ys) = false) := Lib.hid (decide_eq_false fun e => hn (by rw [e]))
    have hn2 : ¬ (xs.length : Int) = (ys.length : Int) := by omega
    go_enter Try.func21, Try.ntmps21
    go_wp2
    go_ret
    exact ⟨ret_bool HD.out.symm, ⟨0, rfl⟩⟩
set_option maxRecDepth 100000 in
set_option maxHeartbeats 4000000 in
theorem l05Same_any (xs ys : List ByteArray) (a b : Option Addr) (ca cb : Nat) (w : World) (ha : SliceAt w 1 Tx.enc a xs) (hb : SliceAt w 1 Tx.enc b ys) (hl : xs.length ≤ 9223372036854775807) (hm : ys.length ≤ 9223372036854775807) :
    Calls Try.prog 20 #[.slice a xs.length ca, .slice b ys.length cb] w fun e w' => e = .returned (.bool (decide (xs = ys))) ∧ Drew w w' := by
  have HA := Lib.hid ha; clear ha
  have HB := Lib.hid hb; clear hb
  by_cases hn : xs.length = ys.length
  · have HE : Hid (∀ k, xs.length ≤ k → xs.take k = ys.take k → xs = ys) := Lib.hid (fun k h1 h2 => by
      rw [List.take_of_length_le h1, List.take_of_length_le (by omega)] at h2; exact h2)
    have HL := Lib.hid hn
    go_enter Try.func20, Try.ntmps20
    rw [← hn]
    clear hn
    go_wp2_with fail
    go_loopw [5] (fun iv wr => ∃ k : Nat, k ≤ xs.length ∧ iv = .int .i64 k ∧ Hid (xs.take k = ys.take k) ∧ Drew w wr) (fun iv _ => xs.length - (intOf iv).toNat)
    case atStart => exact ⟨0, Nat.zero_le _, rfl, Lib.hid rfl, ⟨0, rfl⟩⟩
    case round =>
      obtain ⟨k, hk, rfl, HT, hd⟩ := hrel
      by_cases hlt : k < xs.length
      · obtain ⟨ab, ao, rfl, hca⟩ := (HA.out.kept (hd.below _)).open hlt
        have hlt2 : k < ys.length := by have := HL.out; omega
        obtain ⟨bb, bo, rfl, hcb⟩ := (HB.out.kept (hd.below _)).open hlt2
        have a0 := hca.at0 hlt (v := .string xs[k]) rfl
        have b0 := hcb.at0 hlt2 (v := .string ys[k]) rfl
        rw [Nat.mul_one] at a0 b0
        have HN := Lib.hid (fun e => take_next HT.out hlt hlt2 e)
        have HD : Hid (xs[k] ≠ ys[k] → decide (xs = ys) = false) := Lib.hid (fun h => decide_eq_false fun e => h (by subst e; rfl))
        generalize xs[k] = x at *
        generalize ys[k] = y at *
        clear hca hcb
        by_cases hxy : x = y
        · subst hxy
          go_wp2_with fail
          go_quiet (fail)
          go_wp2
          go_roundw
          case rel => exact ⟨k + 1, by omega, by go_num, Lib.hid (HN.out (by trivial)), hd.trans ⟨_, rfl⟩⟩
          case measure => simp [intOf]; omega
        · have hne := str_ne hxy
          go_wp2_with fail
          go_quiet (fail)
          go_wp2
          go_ret
          exact ⟨ret_bool (HD.out hxy).symm, hd.trans ⟨_, rfl⟩⟩
      · have hx : decide (xs = ys) = true := decide_eq_true (HE.out k (by omega) HT.out)
        go_wp2
        go_ret
        exact ⟨ret_bool hx.symm, hd⟩
  · have HD : Hid (decide (xs = ys) = false) := Lib.hid (decide_eq_false fun e => hn (by rw [e]))
    have hn2 : ¬ (xs.length : Int) = (ys.length : Int) := by omega
    go_enter Try.func20, Try.ntmps20
    go_wp2
    go_ret
    exact ⟨ret_bool HD.out.symm, ⟨0, rfl⟩⟩
set_option maxRecDepth 100000 in
set_option maxHeartbeats 4000000 in
theorem equalInt_any (xs ys : List Int) (a b : Option Addr) (ca cb : Nat) (w : World) (ha : SliceAt w 1 I64.enc a xs) (hb : SliceAt w 1 I64.enc b ys) (hl : xs.length ≤ 9223372036854775807) (hm : ys.length ≤ 9223372036854775807) :
    Calls Try.prog 30 #[.slice a xs.length ca, .slice b ys.length cb] w fun e w' => e = .returned (.bool (decide (xs = ys))) ∧ Drew w w' := by
  have HA := Lib.hid ha; clear ha
  have HB := Lib.hid hb; clear hb
  by_cases hn : xs.length = ys.length
  · have HE : Hid (∀ k, xs.length ≤ k → xs.take k = ys.take k → xs = ys) := Lib.hid (fun k h1 h2 => by
      rw [List.take_of_length_le h1, List.take_of_length_le (by omega)] at h2; exact h2)
    have HL := Lib.hid hn
    go_enter Try.func30, Try.ntmps30
    rw [← hn]
    clear hn
    go_wp2_with fail
    go_loopw [13] (fun iv wr => ∃ k : Nat, k ≤ xs.length ∧ iv = .int .i64 k ∧ Hid (xs.take k = ys.take k) ∧ Drew w wr) (fun iv _ => xs.length - (intOf iv).toNat)
    case atStart => exact ⟨0, Nat.zero_le _, rfl, Lib.hid rfl, ⟨0, rfl⟩⟩
    case round =>
      obtain ⟨k, hk, rfl, HT, hd⟩ := hrel
      by_cases hlt : k < xs.length
      · obtain ⟨ab, ao, rfl, hca⟩ := (HA.out.kept (hd.below _)).open hlt
        have hlt2 : k < ys.length := by have := HL.out; omega
        obtain ⟨bb, bo, rfl, hcb⟩ := (HB.out.kept (hd.below _)).open hlt2
        have a0 := hca.at0 hlt (v := .int .i64 xs[k]) rfl
        have b0 := hcb.at0 hlt2 (v := .int .i64 ys[k]) rfl
        rw [Nat.mul_one] at a0 b0
        have HN := Lib.hid (fun e => take_next HT.out hlt hlt2 e)
        have HD : Hid (xs[k] ≠ ys[k] → decide (xs = ys) = false) := Lib.hid (fun h => decide_eq_false fun e => h (by subst e; rfl))
        generalize xs[k] = x at *
        generalize ys[k] = y at *
        clear hca hcb
        by_cases hxy : x = y
        · subst hxy
          go_wp2_with fail
          go_quiet (fail)
          go_wp2
          go_roundw
          case rel => exact ⟨k + 1, by omega, by go_num, Lib.hid (HN.out (by trivial)), hd.trans ⟨_, rfl⟩⟩
          case measure => simp [intOf]; omega
        · have hne : (x == y) = false := beq_eq_false_iff_ne.2 hxy
          go_wp2_with fail
          go_quiet (fail)
          go_wp2
          go_ret
          exact ⟨ret_bool (HD.out hxy).symm, hd.trans ⟨_, rfl⟩⟩
      · have hx : decide (xs = ys) = true := decide_eq_true (HE.out k (by omega) HT.out)
        go_wp2
        go_ret
        exact ⟨ret_bool hx.symm, hd⟩
  · have HD : Hid (decide (xs = ys) = false) := Lib.hid (decide_eq_false fun e => hn (by rw [e]))
    have hn2 : ¬ (xs.length : Int) = (ys.length : Int) := by omega
    go_enter Try.func30, Try.ntmps30
    go_wp2
    go_ret
    exact ⟨ret_bool HD.out.symm, ⟨0, rfl⟩⟩
set_option maxRecDepth 100000 in
set_option maxHeartbeats 4000000 in
theorem equalStr_any (xs ys : List ByteArray) (a b : Option Addr) (ca cb : Nat) (w : World) (ha : SliceAt w 1 Tx.enc a xs) (hb : SliceAt w 1 Tx.enc b ys) (hl : xs.length ≤ 9223372036854775807) (hm : ys.length ≤ 9223372036854775807) :
    Calls Try.prog 29 #[.slice a xs.length ca, .slice b ys.length cb] w fun e w' => e = .returned (.bool (decide (xs = ys))) ∧ Drew w w' := by
  have HA := Lib.hid ha; clear ha
  have HB := Lib.hid hb; clear hb
  by_cases hn : xs.length = ys.length
  · have HE : Hid (∀ k, xs.length ≤ k → xs.take k = ys.take k → xs = ys) := Lib.hid (fun k h1 h2 => by
      rw [List.take_of_length_le h1, List.take_of_length_le (by omega)] at h2; exact h2)
    have HL := Lib.hid hn
    go_enter Try.func29, Try.ntmps29
    rw [← hn]
    clear hn
    go_wp2_with fail
    go_loopw [13] (fun iv wr => ∃ k : Nat, k ≤ xs.length ∧ iv = .int .i64 k ∧ Hid (xs.take k = ys.take k) ∧ Drew w wr) (fun iv _ => xs.length - (intOf iv).toNat)
    case atStart => exact ⟨0, Nat.zero_le _, rfl, Lib.hid rfl, ⟨0, rfl⟩⟩
    case round =>
      obtain ⟨k, hk, rfl, HT, hd⟩ := hrel
      by_cases hlt : k < xs.length
      · obtain ⟨ab, ao, rfl, hca⟩ := (HA.out.kept (hd.below _)).open hlt
        have hlt2 : k < ys.length := by have := HL.out; omega
        obtain ⟨bb, bo, rfl, hcb⟩ := (HB.out.kept (hd.below _)).open hlt2
        have a0 := hca.at0 hlt (v := .string xs[k]) rfl
        have b0 := hcb.at0 hlt2 (v := .string ys[k]) rfl
        rw [Nat.mul_one] at a0 b0
        have HN := Lib.hid (fun e => take_next HT.out hlt hlt2 e)
        have HD : Hid (xs[k] ≠ ys[k] → decide (xs = ys) = false) := Lib.hid (fun h => decide_eq_false fun e => h (by subst e; rfl))
        generalize xs[k] = x at *
        generalize ys[k] = y at *
        clear hca hcb
        by_cases hxy : x = y
        · subst hxy
          go_wp2_with fail
          go_quiet (fail)
          go_wp2
          go_roundw
          case rel => exact ⟨k + 1, by omega, by go_num, Lib.hid (HN.out (by trivial)), hd.trans ⟨_, rfl⟩⟩
          case measure => simp [intOf]; omega
        · have hne := str_ne hxy
          go_wp2_with fail
          go_quiet (fail)
          go_wp2
          go_ret
          exact ⟨ret_bool (HD.out hxy).symm, hd.trans ⟨_, rfl⟩⟩
      · have hx : decide (xs = ys) = true := decide_eq_true (HE.out k (by omega) HT.out)
        go_wp2
        go_ret
        exact ⟨ret_bool hx.symm, hd⟩
  · have HD : Hid (decide (xs = ys) = false) := Lib.hid (decide_eq_false fun e => hn (by rw [e]))
    have hn2 : ¬ (xs.length : Int) = (ys.length : Int) := by omega
    go_enter Try.func29, Try.ntmps29
    go_wp2
    go_ret
    exact ⟨ret_bool HD.out.symm, ⟨0, rfl⟩⟩
end Go.Proofs.Ytalnbgcdhcnjfaa
