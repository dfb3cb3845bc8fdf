/- Contracts: whether a member and a club are valid, and where a member stands (program and reference). No condition but that the members lie in memory. · Contracts: whether a club is valid (reference and program), where a member stands (program). · Contracts: where a member stands (program), RatingOf (program and reference). -/
import Derived.Test.YtlbnjdgfggiifaaGreatDoorTMember
namespace Go.Proofs.YtlbnjdgfggiifaaGreatDoor
open Go.ChangeShapes Go.WideShapes Go.ChangeAt Go.RowKit Go.Sort

/-- What memory bounds: no name is longer than a string can be. -/
def MemsFit (ms : List Mem) : Prop := ∀ m ∈ ms, m.fit
theorem MemsFit.at {ms : List Mem} (h : MemsFit ms) {k : Nat} (hk : k < ms.length) : ms[k].name.size ≤ 9223372036854775807 := h _ (List.getElem_mem hk)
def memOk (m : Mem) : Bool := isNameL m.name.data.toList && withinB m.rating 0 4000
/-- the i-th member is fine, and stands behind the one ahead of it -/
def okAt (ms : List Mem) (i : Nat) : Bool :=
  match ms[i]? with
  | none => true
  | some m => memOk m && (i == 0 || Op.bytesLess ((ms.getD (i - 1) m).name).toList m.name.toList)
def clubOk (ms : List Mem) : Bool := decide (ms.length ≤ 12) && (List.range ms.length).all (okAt ms)
def findFrom (nm : ByteArray) : List Mem → Nat → Int
  | [], _ => -1
  | m :: ms, k => if m.name.toList == nm.toList then (k : Int) else findFrom nm ms (k + 1)
def findMem (nm : ByteArray) (ms : List Mem) : Int := findFrom nm ms 0

theorem range_all_succ {p : Nat → Bool} {k : Nat} : (List.range (k + 1)).all p = ((List.range k).all p && p k) := by
  rw [List.range_succ, List.all_append]
  simp
theorem range_all_false {p : Nat → Bool} {n k : Nat} (h : k < n) (hp : p k = false) : (List.range n).all p = false := by
  rw [List.all_eq_false]
  exact ⟨k, List.mem_range.2 h, by simp [hp]⟩
theorem okAt_zero {ms : List Mem} (h : 0 < ms.length) : okAt ms 0 = memOk ms[0] := by
  unfold okAt
  rw [List.getElem?_eq_getElem h]
  simp
theorem okAt_succ {ms : List Mem} {k : Nat} (h : k < ms.length) (h0 : 0 < k) : okAt ms k = (memOk ms[k] && Op.bytesLess (ms[k - 1]'(by omega)).name.toList ms[k].name.toList) := by
  unfold okAt
  rw [List.getElem?_eq_getElem h]
  have e : (k == 0) = false := by simp; omega
  have e2 : ms.getD (k - 1) ms[k] = ms[k - 1]'(by omega) := by rw [List.getD_eq_getElem?_getD, List.getElem?_eq_getElem (by omega)]; rfl
  simp only [e, e2, Bool.false_or]
theorem clubOk_long {ms : List Mem} (h : ¬ ms.length ≤ 12) : clubOk ms = false := by simp [clubOk, h]
theorem clubOk_bad {ms : List Mem} {k : Nat} (h : k < ms.length) (hp : okAt ms k = false) : clubOk ms = false := by
  unfold clubOk
  rw [range_all_false h hp, Bool.and_false]
theorem clubOk_all {ms : List Mem} (h : (List.range ms.length).all (okAt ms) = true) : clubOk ms = decide (ms.length ≤ 12) := by
  unfold clubOk
  rw [h, Bool.and_true]
theorem findFrom_hit {nm : ByteArray} {ms : List Mem} {k : Nat} (h : k < ms.length) (e : (ms[k].name.toList == nm.toList) = true) : findFrom nm (ms.drop k) k = k := by
  rw [List.drop_eq_getElem_cons h, findFrom, if_pos e]
theorem findFrom_miss {nm : ByteArray} {ms : List Mem} {k : Nat} (h : k < ms.length) (e : (ms[k].name.toList == nm.toList) = false) : findFrom nm (ms.drop (k + 1)) (k + 1) = findFrom nm (ms.drop k) k := by
  rw [List.drop_eq_getElem_cons h, findFrom, if_neg (by rw [e]; exact Bool.false_ne_true)]
theorem findFrom_end {nm : ByteArray} {ms : List Mem} {k : Nat} (h : ¬ k < ms.length) : findFrom nm (ms.drop k) k = -1 := by
  rw [List.drop_eq_nil_of_le (by omega)]
  rfl

theorem l26Rating_any (x : Int) (w : World) : Calls Tryz.prog 78 #[.int .i64 x] w fun e w' => e = .returned (.bool (withinB x 0 4000)) ∧ w = w' := by
  go_enter Tryz.func78, Tryz.ntmps78
  go_wp2_with (go_at_call 85; refine (l00In_any _ _ _ _).mono ?_; rintro e w' ⟨rfl, rfl⟩)
  go_ret
  exact ⟨rfl, rfl⟩
set_option maxHeartbeats 400000 in
theorem l26Member_any (b o : Nat) (m : Mem) (w : World) (h0 : w.cell? ⟨b, o, none⟩ = some (.string m.name)) (h1 : w.cell? ⟨b, o + 1, none⟩ = some (.int .i64 m.rating)) (hf : m.name.size ≤ 9223372036854775807) :
    Calls Tryz.prog 62 #[.pointer (some ⟨b, o, none⟩)] w fun e w' => e = .returned (.bool (memOk m)) ∧ w = w' := by
  go_enter Tryz.func62, Tryz.ntmps62
  go_wp2_with (first | (go_at_call 66; refine (specIsName_any _ _ hf).mono ?_; rintro e w' ⟨rfl, rfl⟩) | (go_at_call 78; refine (l26Rating_any _ _).mono ?_; rintro e w' ⟨rfl, rfl⟩))
  all_goals
    go_ret
    exact ⟨ret_bool (by unfold memOk; simp [*]), rfl⟩
set_option maxHeartbeats 400000 in
theorem validMember_any (m : Mem) (w : World) (hf : m.name.size ≤ 9223372036854775807) :
    Calls Tryz.prog 52 #[.agg #[.string m.name, .int .i64 m.rating]] w fun e w' => e = .returned (.bool (memOk m)) ∧ Below w.heap.size w w' := by
  go_enter Tryz.func52, Tryz.ntmps52
  go_wp2_with (first | (go_at_call 63; refine (IsName_any _ _ hf).mono ?_; rintro e w' ⟨rfl, rfl⟩) | (go_at_call 64; refine (within_any _ _ _ _).mono ?_; rintro e w' ⟨rfl, rfl⟩))
  all_goals
    go_ret
    exact ⟨ret_bool (by unfold memOk; simp [*]), (Below.refl _ _).alloc (Nat.le_refl _) _⟩

set_option maxHeartbeats 400000 in
theorem l26Find_any (ms : List Mem) (nm : ByteArray) (b o : Nat) (a : Option Addr) (cap : Nat) (w : World) (hp : w.cell? ⟨b, o, none⟩ = some (.slice a ms.length cap))
    (hm : SliceAt w 2 Mem.enc a ms) (hl : ms.length ≤ 9223372036854775807) : Calls Tryz.prog 47 #[.pointer (some ⟨b, o, none⟩), .string nm] w fun e w' => e = .returned (.int .i64 (findMem nm ms)) ∧ w = w' := by
  have HM := Lib.hid hm; clear hm
  go_enter Tryz.func47, Tryz.ntmps47
  go_wp2
  go_loop [5] (fun i => ∃ k : Nat, k ≤ ms.length ∧ i = .int .i64 k ∧ findFrom nm (ms.drop k) k = findMem nm ms) (fun i => ms.length - (intOf i).toNat)
  case atStart => exact ⟨0, Nat.zero_le _, rfl, rfl⟩
  case round =>
    obtain ⟨k, hk, rfl, hf⟩ := hrel
    have HF := Lib.hid hf; clear hf
    by_cases hlt : k < ms.length
    · obtain ⟨mb, mo, rfl, hc⟩ := HM.out.open hlt
      have hc0 := hc.at0 hlt rfl
      clear hc
      go_wp2
      · go_ret
        exact ⟨ret_int (by rw [← HF.out, findFrom_hit hlt ‹_›]), rfl⟩
      · go_round
        case rel => exact ⟨k + 1, by omega, by go_num, by rw [findFrom_miss hlt ‹_›]; exact HF.out⟩
        case measure => simp [intOf]; omega
    · go_wp2
      go_ret
      exact ⟨ret_int (by rw [← HF.out, findFrom_end hlt]), rfl⟩
end Go.Proofs.YtlbnjdgfggiifaaGreatDoor

namespace Go.Proofs.YtlbnjdgfggiifaaGreatDoor
open Go.ChangeShapes Go.WideShapes Go.ChangeAt Go.RowKit Go.Sort

set_option maxHeartbeats 1000000 in
theorem l26Ok_any (ms : List Mem) (b o : Nat) (a : Option Addr) (cap : Nat) (w : World) (hp : w.cell? ⟨b, o, none⟩ = some (.slice a ms.length cap))
    (hm : SliceAt w 2 Mem.enc a ms) (hl : ms.length ≤ 9223372036854775807) (hf : MemsFit ms) :
    Calls Tryz.prog 39 #[.pointer (some ⟨b, o, none⟩)] w fun e w' => e = .returned (.bool (clubOk ms)) ∧ Drew w w' := by
  have HM := Lib.hid hm; clear hm
  have HF := Lib.hid hf; clear hf
  go_enter Tryz.func39, Tryz.ntmps39
  go_wp2
  go_loopw [3] (fun i wr => ∃ k : Nat, k ≤ ms.length ∧ i = .int .i64 k ∧ (List.range k).all (okAt ms) = true ∧ Drew w wr) (fun i _ => ms.length - (intOf i).toNat)
  case atStart => exact ⟨0, Nat.zero_le _, rfl, rfl, Drew.refl _⟩
  case round =>
    obtain ⟨k, hk, rfl, hall, hd⟩ := hrel
    have HA := Lib.hid hall; clear hall
    have hpr : wr.cell? ⟨b, o, none⟩ = some (.slice a ms.length cap) := (hd.cell _).trans hp
    clear hp
    by_cases hlt : k < ms.length
    · obtain ⟨mb, mo, rfl, hc⟩ := (HM.out.drew hd).open hlt
      have hc0 := hc.at0 hlt rfl
      have hc1 := hc k hlt 1 _ rfl
      have hfit := HF.out.at hlt
      by_cases h0 : k = 0
      · subst h0
        simp only [Nat.zero_mul, Nat.add_zero] at hc0 hc1
        have HO := Lib.hid (okAt_zero hlt)
        clear hc
        by_cases hv : memOk ms[0] = true
        · go_wp2
          go_quiet ((go_at_call 62; refine quiet_of_eq (l26Member_any mb mo ms[0] _ ?_ ?_ hfit) <;> simp [hc0, hc1]))
          go_wp2
          go_roundw
          case rel => exact ⟨1, by omega, rfl, by rw [range_all_succ, HO.out, hv]; rfl, hd.drewN _⟩
          case measure => simp [intOf]; omega
        · have hv' : memOk ms[0] = false := by simpa using hv
          clear hv
          go_wp2
          go_quiet ((go_at_call 62; refine quiet_of_eq (l26Member_any mb mo ms[0] _ ?_ ?_ hfit) <;> simp [hc0, hc1]))
          go_wp2
          go_ret
          exact ⟨ret_bool (clubOk_bad hlt (by rw [HO.out]; exact hv')).symm, hd.drewN _⟩
      · have HO := Lib.hid (okAt_succ hlt (by omega))
        have h0' : 0 < k := by omega
        have hcp := hc.at0 (k := k - 1) (by omega) rfl
        have hb1 : (1 : Int) ≤ (k : Int) := by omega
        have hb2 : (k : Int) - 1 < (ms.length : Int) := by omega
        clear hc
        by_cases hv : memOk ms[k] = true
        · by_cases hs : Op.bytesLess (ms[k - 1]'(by omega)).name.toList ms[k].name.toList = true
          · go_wp2
            go_quiet ((go_at_call 62; refine quiet_of_eq (l26Member_any mb (mo + k * 2) ms[k] _ ?_ ?_ hfit) <;> simp [hc0, hc1]))
            go_wp2
            go_roundw
            case rel => exact ⟨k + 1, by omega, by go_num, by rw [range_all_succ, HA.out, HO.out, hv, hs]; rfl, hd.drewN _⟩
            case measure => simp [intOf]; omega
          · have hs' : Op.bytesLess (ms[k - 1]'(by omega)).name.toList ms[k].name.toList = false := by simpa using hs
            clear hs
            go_wp2
            go_quiet ((go_at_call 62; refine quiet_of_eq (l26Member_any mb (mo + k * 2) ms[k] _ ?_ ?_ hfit) <;> simp [hc0, hc1]))
            go_wp2
            go_ret
            exact ⟨ret_bool (clubOk_bad hlt (by rw [HO.out, hv, hs']; rfl)).symm, hd.drewN _⟩
        · have hv' : memOk ms[k] = false := by simpa using hv
          clear hv
          go_wp2
          go_quiet ((go_at_call 62; refine quiet_of_eq (l26Member_any mb (mo + k * 2) ms[k] _ ?_ ?_ hfit) <;> simp [hc0, hc1]))
          go_wp2
          go_ret
          exact ⟨ret_bool (clubOk_bad hlt (by rw [HO.out, hv']; rfl)).symm, hd.drewN _⟩
    · have HE := Lib.hid (show (List.range ms.length).all (okAt ms) = true by rw [show ms.length = k from by omega]; exact HA.out)
      go_wp2
      go_ret
      exact ⟨ret_bool (by rw [clubOk_all HE.out, Bool.eq_iff_iff]; simp; omega), hd⟩

/-- 'w with some blocks behind it', as a name that the walk does not open. -/
theorem below_of_regrown {w : World} (p : Regrown) : Below w.heap.size w (grow (redrawn w p.d) p.os) := below_regrown w p.d p.os

set_option maxHeartbeats 1000000 in
theorem ValidClub_any (ms : List Mem) (a : Option Addr) (cap : Nat) (w : World) (hm : SliceAt w 2 Mem.enc a ms) (hl : ms.length ≤ 9223372036854775807) (hf : MemsFit ms) :
    Calls Tryz.prog 26 #[.agg #[.slice a ms.length cap]] w fun e w' => e = .returned (.bool (clubOk ms)) ∧ Below w.heap.size w w' := by
  have HM := Lib.hid hm; clear hm
  have HF := Lib.hid hf; clear hf
  by_cases h12 : 12 < ms.length
  · go_enter Tryz.func26, Tryz.ntmps26
    go_wp2
    go_ret
    exact ⟨ret_bool (clubOk_long (by omega)).symm, (Below.refl _ _).alloc (Nat.le_refl _) _⟩
  · go_enter Tryz.func26, Tryz.ntmps26
    go_wp2
    go_loopw [12] (fun i wr => ∃ k : Nat, k ≤ ms.length ∧ i = .int .i64 k ∧ (List.range k).all (okAt ms) = true ∧ Below w.heap.size w wr ∧ wr.cell? ⟨w.heap.size, 0, none⟩ = some (.slice a ms.length cap)) (fun i _ => ms.length - (intOf i).toNat)
    case atStart => exact ⟨0, Nat.zero_le _, rfl, rfl, (Below.refl _ _).alloc (Nat.le_refl _) _, cell_new0 _ _ _ rfl⟩
    case round =>
      obtain ⟨k, hk, rfl, hall, hb, hpr⟩ := hrel
      have HA := Lib.hid hall; clear hall
      by_cases hlt : k < ms.length
      · obtain ⟨mb, mo, rfl, hc⟩ := (HM.out.kept hb).open hlt
        have hc0 := hc.at0 hlt rfl
        have hc1 := hc k hlt 1 _ rfl
        have hfit := HF.out.at hlt
        have HO : Hid (okAt ms k = if h : 0 < k then (memOk ms[k] && Op.bytesLess (ms[k - 1]'(by omega)).name.toList ms[k].name.toList) else memOk ms[k]) := by
          split
          · exact okAt_succ hlt ‹_›
          · obtain rfl : k = 0 := by omega
            exact okAt_zero hlt
        have g0 := cell_regrown (cell_alloc hpr (.cells #[.string ms[k].name, .int .i64 ms[k].rating] 53))
        have g1 := cell_regrown (cell_new0 wr #[.string ms[k].name, .int .i64 ms[k].rating] 53 (i := 0) (v := .string ms[k].name) rfl)
        have g2 := cell_regrown (cell_new0 wr #[.string ms[k].name, .int .i64 ms[k].rating] 53 (i := 1) (v := .int .i64 ms[k].rating) rfl)
        have hb2 : Below w.heap.size w (wr.alloc (.cells #[.string ms[k].name, .int .i64 ms[k].rating] 53)) := hb.alloc hb.size _
        have hp2 := cell_alloc hpr (.cells #[.string ms[k].name, .int .i64 ms[k].rating] 53)
        have HB := Lib.hid hb2; clear hb2
        have HP := Lib.hid hp2; clear hp2
        by_cases h0 : 0 < k
        · have gp := cell_regrown (cell_alloc (hc.at0 (k := k - 1) (v := .string (ms[k - 1]'(by omega)).name) (by omega) rfl) (.cells #[.string ms[k].name, .int .i64 ms[k].rating] 53))
          clear hc
          have HO' : Hid (okAt ms k = (memOk ms[k] && Op.bytesLess (ms[k - 1]'(by omega)).name.toList ms[k].name.toList)) := by
            have := HO.out
            rw [dif_pos h0] at this
            exact this
          have hk1 : (1 : Int) ≤ (k : Int) := by omega
          have hk2 : (k : Int) - 1 < (ms.length : Int) := by omega
          by_cases hv : memOk ms[k] = true
          · by_cases hs : Op.bytesLess (ms[k - 1]'(by omega)).name.toList ms[k].name.toList = true
            · go_wp2
              refine wp_region_quiet_below (by kernel_rfl) (by kernel_rfl) ?_
              repeat (go_big_quiet_step ((go_at_call 52; exact Calls.regrown_of (validMember_any ms[k] _ hfit))))
              refine wpQuiet_nil ?_
              intro _ hw'
              obtain ⟨⟨dq, oq⟩, hw''⟩ := hw'
              subst hw''
              go_wp2
              go_roundw
              case rel => exact ⟨k + 1, by omega, by go_num, by rw [range_all_succ, HA.out, HO'.out, hv, hs]; rfl, HB.out.trans ((below_regrown _ _ _).mono HB.out.size), cell_kept HP.out (below_regrown _ _ _)⟩
              case measure => simp [intOf]; omega
            · have hs' : Op.bytesLess (ms[k - 1]'(by omega)).name.toList ms[k].name.toList = false := by simpa using hs
              clear hs
              go_wp2
              refine wp_region_quiet_below (by kernel_rfl) (by kernel_rfl) ?_
              repeat (go_big_quiet_step ((go_at_call 52; exact Calls.regrown_of (validMember_any ms[k] _ hfit))))
              refine wpQuiet_nil ?_
              intro _ hw'
              obtain ⟨⟨dq, oq⟩, hw''⟩ := hw'
              subst hw''
              go_wp2
              go_ret
              exact ⟨ret_bool (clubOk_bad hlt (by rw [HO'.out, hv, hs']; rfl)).symm, HB.out.trans ((below_regrown _ _ _).mono HB.out.size)⟩
          · have hv' : memOk ms[k] = false := by simpa using hv
            clear hv
            go_wp2
            refine wp_region_quiet_below (by kernel_rfl) (by kernel_rfl) ?_
            repeat (go_big_quiet_step ((go_at_call 52; exact Calls.regrown_of (validMember_any ms[k] _ hfit))))
            refine wpQuiet_nil ?_
            intro _ hw'
            obtain ⟨⟨dq, oq⟩, hw''⟩ := hw'
            subst hw''
            go_wp2
            go_ret
            exact ⟨ret_bool (clubOk_bad hlt (by rw [HO'.out, hv']; rfl)).symm, HB.out.trans ((below_regrown _ _ _).mono HB.out.size)⟩
        · have HO' : Hid (okAt ms k = memOk ms[k]) := by
            have := HO.out
            rw [dif_neg h0] at this
            exact this
          have hd0 : decide ((0 : Int) < (k : Int)) = false := by simp; omega
          clear hc
          by_cases hv : memOk ms[k] = true
          · go_wp2
            refine wp_region_quiet_below (by kernel_rfl) (by kernel_rfl) ?_
            repeat (go_big_quiet_step ((go_at_call 52; exact Calls.regrown_of (validMember_any ms[k] _ hfit))))
            refine wpQuiet_nil ?_
            intro _ hw'
            obtain ⟨⟨dq, oq⟩, hw''⟩ := hw'
            subst hw''
            go_wp2
            go_roundw
            case rel => exact ⟨k + 1, by omega, by go_num, by rw [range_all_succ, HA.out, HO'.out, hv]; rfl, HB.out.trans ((below_regrown _ _ _).mono HB.out.size), cell_kept HP.out (below_regrown _ _ _)⟩
            case measure => simp [intOf]; omega
          · have hv' : memOk ms[k] = false := by simpa using hv
            clear hv
            go_wp2
            refine wp_region_quiet_below (by kernel_rfl) (by kernel_rfl) ?_
            repeat (go_big_quiet_step ((go_at_call 52; exact Calls.regrown_of (validMember_any ms[k] _ hfit))))
            refine wpQuiet_nil ?_
            intro _ hw'
            obtain ⟨⟨dq, oq⟩, hw''⟩ := hw'
            subst hw''
            go_wp2
            go_ret
            exact ⟨ret_bool (clubOk_bad hlt (by rw [HO'.out]; exact hv')).symm, HB.out.trans ((below_regrown _ _ _).mono HB.out.size)⟩
      · have HE := Lib.hid (show (List.range ms.length).all (okAt ms) = true by rw [show ms.length = k from by omega]; exact HA.out)
        go_wp2
        go_ret
        exact ⟨ret_bool (by rw [clubOk_all HE.out]; simp <;> omega), hb⟩
end Go.Proofs.YtlbnjdgfggiifaaGreatDoor

namespace Go.Proofs.YtlbnjdgfggiifaaGreatDoor
open Go.ChangeShapes Go.WideShapes Go.ChangeAt Go.RowKit Go.Sort

set_option maxHeartbeats 400000 in
theorem member1_any (m : Mem) (nm : ByteArray) (b o : Nat) (w : World) (hp : w.cell? ⟨b, o, none⟩ = some (.string nm)) :
    Calls Tryz.prog 69 #[.agg #[.string m.name, .int .i64 m.rating], .pointer (some ⟨b, o, none⟩)] w fun e w' => e = .returned (.bool (m.name.toList == nm.toList)) ∧ Below w.heap.size w w' := by
  have hp2 := cell_alloc hp (.cells #[.string m.name, .int .i64 m.rating] 53)
  go_enter Tryz.func69, Tryz.ntmps69
  go_wp2
  go_ret
  exact ⟨rfl, (Below.refl _ _).alloc (Nat.le_refl _) _⟩

set_option maxHeartbeats 1000000 in
theorem indexMember_any (ms : List Mem) (nm : ByteArray) (b o : Nat) (a : Option Addr) (cap : Nat) (w : World) (hp : w.cell? ⟨b, o, none⟩ = some (.string nm))
    (hm : SliceAt w 2 Mem.enc a ms) (hl : ms.length ≤ 9223372036854775807) :
    Calls Tryz.prog 68 #[.slice a ms.length cap, .func (.func 69) #[] #[.pointer (some ⟨b, o, none⟩)]] w fun e w' => e = .returned (.int .i64 (findMem nm ms)) ∧ Below w.heap.size w w' := by
  have HM := Lib.hid hm; clear hm
  go_enter Tryz.func68, Tryz.ntmps68
  go_wp2
  go_loopw [8] (fun i wr => ∃ k : Nat, k ≤ ms.length ∧ i = .int .i64 k ∧ findFrom nm (ms.drop k) k = findMem nm ms ∧ Below w.heap.size w wr) (fun i _ => ms.length - (intOf i).toNat)
  case atStart => exact ⟨0, Nat.zero_le _, rfl, rfl, Below.refl _ _⟩
  case round =>
    obtain ⟨k, hk, rfl, hf, hb⟩ := hrel
    have HF := Lib.hid hf; clear hf
    have hpr := cell_kept hp hb
    by_cases hlt : k < ms.length
    · obtain ⟨mb, mo, rfl, hc⟩ := (HM.out.kept hb).open hlt
      have hc0 := hc.at0 hlt rfl
      have hc1 := hc k hlt 1 _ rfl
      clear hc
      go_wp2_with (go_at_call 69; refine (member1_any ms[k] nm b o _ hpr).mono ?_; rintro e w2 ⟨rfl, hb2⟩)
      · go_ret
        exact ⟨ret_int (by rw [← HF.out, findFrom_hit hlt ‹_›]), hb.trans (hb2.mono hb.size)⟩
      · go_roundw
        case rel => exact ⟨k + 1, by omega, by go_num, by rw [findFrom_miss hlt ‹_›]; exact HF.out, hb.trans (hb2.mono hb.size)⟩
        case measure => simp [intOf]; omega
    · go_wp2
      go_ret
      exact ⟨ret_int (by rw [← HF.out, findFrom_end hlt]), hb⟩

set_option maxHeartbeats 400000 in
theorem member_any (ms : List Mem) (nm : ByteArray) (a : Option Addr) (cap : Nat) (w : World) (hm : SliceAt w 2 Mem.enc a ms) (hl : ms.length ≤ 9223372036854775807) :
    Calls Tryz.prog 46 #[.agg #[.slice a ms.length cap], .string nm] w fun e w' => e = .returned (.int .i64 (findMem nm ms)) ∧ Below w.heap.size w w' := by
  have HM := Lib.hid hm; clear hm
  go_enter Tryz.func46, Tryz.ntmps46
  go_wp2_with fail
  have hb : Below w.heap.size w ((w.alloc (.cells #[.slice a ms.length cap] 26)).alloc (.cells #[.string nm] 9)) := ((Below.refl _ _).alloc (Nat.le_refl _) _).alloc (by simp) _
  refine (indexMember_any ms nm _ _ a cap _ ?_ (HM.out.kept hb) hl).mono ?_
  · simp
  rintro e w2 ⟨rfl, hb2⟩
  go_wp2
  go_ret
  exact ⟨rfl, hb.trans (hb2.mono hb.size)⟩

/-- what RatingOf gives -/
def ratingOf (ms : List Mem) (nm : ByteArray) : Int × Int :=
  if clubOk ms = false then (0, 1)
  else if findMem nm ms < 0 then (0, 3)
  else ((ms.getD (findMem nm ms).toNat ⟨nm, 0⟩).rating, 0)

theorem findFrom_bound (nm : ByteArray) (ms : List Mem) (k : Nat) : findFrom nm ms k = -1 ∨ ((k : Int) ≤ findFrom nm ms k ∧ findFrom nm ms k < k + ms.length) := by
  induction ms generalizing k with
  | nil => exact .inl rfl
  | cons m ms ih =>
    unfold findFrom
    split
    · right; simp; omega
    · rcases ih (k + 1) with h | ⟨h1, h2⟩
      · exact .inl h
      · right; simp at *; omega
theorem findMem_bound (nm : ByteArray) (ms : List Mem) : findMem nm ms = -1 ∨ (0 ≤ findMem nm ms ∧ findMem nm ms < ms.length) := by
  rcases findFrom_bound nm ms 0 with h | ⟨h1, h2⟩
  · exact .inl h
  · exact .inr ⟨by simpa [findMem] using h1, by simpa [findMem] using h2⟩
end Go.Proofs.YtlbnjdgfggiifaaGreatDoor
