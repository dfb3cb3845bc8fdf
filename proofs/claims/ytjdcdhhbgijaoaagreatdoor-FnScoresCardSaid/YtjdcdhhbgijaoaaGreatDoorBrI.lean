/- Contracts: the program's boards: whether one is valid, a square, what is on it. No condition but that a length fits an int; the squares: for valid boards. · Contracts: the program's directions. No condition. -/
import Derived.Test.YtjdcdhhbgijaoaaGreatDoorBrA
import Derived.Test.YtjdcdhhbgijaoaaGreatDoorShq
import Derived.Test.YtjdcdhhbgijaoaaGreatDoorVar
import Derived.Test.YtjdcdhhbgijaoaaGreatDoorBrD
import Derived.Laws.BytesArg
namespace Go.Proofs.YtjdcdhhbgijaoaaGreatDoor
open Go.ChangeShapes Go.WideShapes Go.ChangeAt Go.RowKit Go.Sort

set_option maxRecDepth 100000 in
theorem prem_index : ∀ c : Fin 256, decide (0 ≤ Lib.indexByte [50, 51, 100, 116, 46] (UInt8.ofNat c.val)) = premB (c.val : Int) := by decide
theorem prem_eq (c : UInt8) : decide (0 ≤ Lib.indexByte [50, 51, 100, 116, 46] c) = premB (c.toNat : Int) := by
  have := prem_index ⟨c.toNat, c.toNat_lt⟩
  simpa using this
theorem premiumOk_any (c : UInt8) (w : World) : Calls Tryz.prog 161 #[.int .u8 (c.toNat : Int)] w fun e w' => e = .returned (.bool (premB c.toNat)) ∧ w = w' := by
  have HP := Lib.hid (prem_eq c)
  have HS : Hid (∀ W, Calls Tryz.prog 234 #[.string ⟨#[50, 51, 100, 116, 46]⟩, .int .u8 (c.toNat : Int)] W fun e w' => e = .returned (.int .i64 (Lib.indexByte [50, 51, 100, 116, 46] c)) ∧ w' = W) := Lib.hid (fun W => by
    have := Tryz.strings_IndexByte ⟨#[50, 51, 100, 116, 46]⟩ (c.toNat : Int) W
    rw [show ((c.toNat : Int)).toNat.toUInt8 = c from by simp] at this
    exact this)
  generalize Lib.indexByte [50, 51, 100, 116, 46] c = z at *
  go_enter Tryz.func161, Tryz.ntmps161
  go_wp2_with fail
  refine (HS.out _).mono ?_
  rintro e w' ⟨rfl, rfl⟩
  go_wp2
  go_ret
  exact ⟨ret_bool HP.out, rfl⟩
set_option maxHeartbeats 2000000 in
theorem allPrem_any (s : ByteArray) (w : World) (hs : s.size ≤ 9223372036854775807) : Calls Tryz.prog 160 #[.string s, .func (.func 161) #[] #[]] w fun e w' => e = .returned (.bool (allP s)) ∧ w = w' := by
  show Calls _ _ _ _ fun e w' => e = .returned (.bool (s.data.toList.all (fun c => premB c.toNat))) ∧ w = w'
  obtain ⟨all, hall⟩ : ∃ all, all = s.data.toList.all (fun c => premB c.toNat) := ⟨_, rfl⟩
  rw [← hall]
  have HL := Lib.hid hall
  clear hall
  go_enter Tryz.func160, Tryz.ntmps160
  go_wp2
  go_loop [5] (fun i => ∃ k : Nat, k ≤ s.size ∧ i = .int .i64 k ∧ Hid (upTo premB s k)) (fun i => s.size - (intOf i).toNat)
  case atStart => exact ⟨0, Nat.zero_le _, rfl, Lib.hid (upTo.zero _ _)⟩
  case round =>
    obtain ⟨k, hk, rfl, HA⟩ := hrel
    by_cases hlt : k < s.size
    · cases hsm : premB s[k].toNat with
      | false =>
        have HN : Hid (all = false) := Lib.hid (by rw [HL.out]; exact all_get hlt hsm)
        go_wp2_with fail
        refine (premiumOk_any _ _).mono ?_
        rintro e w' ⟨rfl, rfl⟩
        rw [hsm]
        clear hsm
        go_wp2
        go_ret
        exact ⟨ret_bool HN.out.symm, rfl⟩
      | true =>
        have HN : Hid (upTo premB s (k + 1)) := Lib.hid (all_step hlt HA.out hsm)
        go_wp2_with fail
        refine (premiumOk_any _ _).mono ?_
        rintro e w' ⟨rfl, rfl⟩
        rw [hsm]
        clear hsm
        go_wp2
        go_round
        case rel => exact ⟨k + 1, by omega, by go_num, HN⟩
        case measure => simp [intOf]; omega
    · have HN : Hid (all = true) := Lib.hid (by rw [HL.out]; exact all_end (k := k) (by omega) HA.out)
      go_wp2
      go_ret
      exact ⟨ret_bool HN.out.symm, rfl⟩
set_option maxRecDepth 100000 in
set_option maxHeartbeats 4000000 in
theorem ValidBoard_any (b : Brd) (w : World) (hf : b.fit) :
    Calls Tryz.prog 70 #[.agg #[.int .i64 b.size, .string b.premium, .string b.cells]] w fun e w' => e = .returned (.bool b.ok) ∧ Below w.heap.size w w' := by
  have hb : Below w.heap.size w (w.alloc (.cells #[.int .i64 b.size, .string b.premium, .string b.cells] 25)) := (Below.refl _ _).alloc (Nat.le_refl _) _
  obtain ⟨hf1, hf2⟩ := hf
  cases h1 : withinB b.size 5 15 with
  | false =>
    have HN := Lib.hid (Brd.ok_size h1)
    have HI1 : Hid (∀ W, Calls Tryz.prog 159 #[.int .i64 b.size] W fun e w' => e = .returned (.bool false) ∧ W = w') := Lib.hid (fun W => by have := sizeOk_any b.size W; rwa [h1] at this)
    clear h1
    go_enter Tryz.func70, Tryz.ntmps70
    go_wp2_with (go_at_call 159; refine (HI1.out _).mono ?_; rintro e w' ⟨rfl, rfl⟩)
    go_ret
    exact ⟨ret_bool HN.out.symm, hb⟩
  | true =>
    have HN1 := Lib.hid (Brd.ok_prem (b := b))
    have HN2 := Lib.hid (Brd.ok_cells (b := b))
    have HY := Lib.hid (Brd.ok_eq (b := b) h1)
    obtain ⟨n, hn, n5, n15⟩ := withinN h1
    have HI1 : Hid (∀ W, Calls Tryz.prog 159 #[.int .i64 (n : Int)] W fun e w' => e = .returned (.bool true) ∧ W = w') := Lib.hid (fun W => by have := sizeOk_any b.size W; rwa [h1, hn] at this)
    have HSZ := Lib.hid hn
    rw [hn] at hb
    rw [hn]
    obtain ⟨q, hq⟩ : ∃ q, q = n * n := ⟨_, rfl⟩
    have hqi : (n : Int) * (n : Int) = (q : Int) := by rw [hq]; push_cast; rfl
    have hq3 : q ≤ 225 := by rw [hq]; exact sq_mono n15
    have HQ := Lib.hid hqi
    clear h1 hn hq
    by_cases h3 : b.premium.size = q
    · have h4 : ((b.premium.size : Int) != (q : Int)) = false := by rw [h3]; simp
      by_cases h5 : b.cells.size = b.premium.size
      · have h6 : ((b.cells.size : Int) != (b.premium.size : Int)) = false := by rw [h5]; simp
        have HN0 : Hid (b.ok = (allP b.premium && allC b.cells)) := Lib.hid (HY.out (by rw [HSZ.out, HQ.out, h3]) h5)
        have H3 := Lib.hid h3
        have H5 := Lib.hid h5
        clear HN1 HN2 HY h3 h5
        cases hp : allP b.premium with
        | false =>
          have HN : Hid (b.ok = false) := Lib.hid (by rw [HN0.out, hp]; rfl)
          go_enter Tryz.func70, Tryz.ntmps70
          go_wp2_with fail
          refine (HI1.out _).mono ?_
          rintro e w' ⟨rfl, rfl⟩
          go_wp2_with fail
          refine (allPrem_any b.premium _ hf1).mono ?_
          rintro e w' ⟨rfl, rfl⟩
          rw [hp]
          clear hp
          go_wp2
          go_ret
          exact ⟨ret_bool HN.out.symm, hb⟩
        | true =>
          have HN : Hid (b.ok = allC b.cells) := Lib.hid (by rw [HN0.out, hp]; rfl)
          go_enter Tryz.func70, Tryz.ntmps70
          go_wp2_with fail
          refine (HI1.out _).mono ?_
          rintro e w' ⟨rfl, rfl⟩
          go_wp2_with fail
          refine (allPrem_any b.premium _ hf1).mono ?_
          rintro e w' ⟨rfl, rfl⟩
          rw [hp]
          clear hp
          go_wp2_with fail
          refine (allCell_any b.cells _ hf2).mono ?_
          rintro e w' ⟨rfl, rfl⟩
          go_wp2
          go_ret
          exact ⟨ret_bool HN.out.symm, hb⟩
      · have h6 : ((b.cells.size : Int) != (b.premium.size : Int)) = true := by simp; omega
        have HN : Hid (b.ok = false) := Lib.hid (HN2.out h5)
        have H3 := Lib.hid h3
        clear HN1 HN2 HY h3 h5
        go_enter Tryz.func70, Tryz.ntmps70
        go_wp2_with (go_at_call 159; refine (HI1.out _).mono ?_; rintro e w' ⟨rfl, rfl⟩)
        go_ret
        exact ⟨ret_bool HN.out.symm, hb⟩
    · have h4 : ((b.premium.size : Int) != (q : Int)) = true := by simp; omega
      have HN : Hid (b.ok = false) := Lib.hid (HN1.out (by rw [HSZ.out, HQ.out]; omega))
      clear HN1 HN2 HY h3
      go_enter Tryz.func70, Tryz.ntmps70
      go_wp2_with (go_at_call 159; refine (HI1.out _).mono ?_; rintro e w' ⟨rfl, rfl⟩)
      go_ret
      exact ⟨ret_bool HN.out.symm, hb⟩
set_option maxHeartbeats 1000000 in
theorem inside_any (b : Brd) (n : Nat) (r c : Int) (w : World) (hb0 : b.Good n) :
    Calls Tryz.prog 206 #[.agg #[.int .i64 b.size, .string b.premium, .string b.cells], .int .i64 r, .int .i64 c] w fun e w' => e = .returned (.bool (b.inB r c)) ∧ Below w.heap.size w w' := by
  have HS : Hid (b.inB r c = (withinB r 0 ((n : Int) - 1) && withinB c 0 ((n : Int) - 1))) := Lib.hid (by unfold Brd.inB; rw [hb0.size])
  have h15 := hb0.hi
  have h5 := hb0.lo
  rw [hb0.size]
  clear hb0
  have hb : Below w.heap.size w (w.alloc (.cells #[.int .i64 n, .string b.premium, .string b.cells] 25)) := (Below.refl _ _).alloc (Nat.le_refl _) _
  cases h1 : withinB r 0 ((n : Int) - 1) with
  | false =>
    have HE : Hid (b.inB r c = false) := Lib.hid (by rw [HS.out, h1]; rfl)
    go_enter Tryz.func206, Tryz.ntmps206
    go_wp2_with fail
    refine (within_any _ _ _ _).mono ?_
    rintro e w' ⟨rfl, rfl⟩
    rw [h1]
    clear h1
    go_wp2
    go_ret
    exact ⟨ret_bool HE.out.symm, hb⟩
  | true =>
    have HE : Hid (b.inB r c = withinB c 0 ((n : Int) - 1)) := Lib.hid (by rw [HS.out, h1]; rfl)
    go_enter Tryz.func206, Tryz.ntmps206
    go_wp2_with fail
    refine (within_any _ _ _ _).mono ?_
    rintro e w' ⟨rfl, rfl⟩
    rw [h1]
    clear h1
    go_wp2_with fail
    refine (within_any _ _ _ _).mono ?_
    rintro e w' ⟨rfl, rfl⟩
    go_wp2
    go_ret
    exact ⟨ret_bool HE.out.symm, hb⟩
set_option maxRecDepth 100000 in
set_option maxHeartbeats 2000000 in
theorem cell_any (b : Brd) (n : Nat) (r c : Int) (w : World) (hb0 : b.Good n) :
    Calls Tryz.prog 129 #[.agg #[.int .i64 b.size, .string b.premium, .string b.cells], .int .i64 r, .int .i64 c] w fun e w' => e = .returned (.int .u8 ((b.cell r c).toNat : Int)) ∧ Below w.heap.size w w' := by
  have HIN : Hid (∀ W, Calls Tryz.prog 206 #[.agg #[.int .i64 n, .string b.premium, .string b.cells], .int .i64 r, .int .i64 c] W fun e w' => e = .returned (.bool (b.inB r c)) ∧ Below W.heap.size W w') := Lib.hid (fun W => by have := inside_any b n r c W hb0; rwa [hb0.size] at this)
  cases hi : b.inB r c with
  | false =>
    have HE : Hid (b.cell r c = 0) := Lib.hid (Brd.cell_out hi)
    rw [hb0.size]
    have hb : Below w.heap.size w (w.alloc (.cells #[.int .i64 n, .string b.premium, .string b.cells] 25)) := (Below.refl _ _).alloc (Nat.le_refl _) _
    go_enter Tryz.func129, Tryz.ntmps129
    go_wp2_with fail
    refine (HIN.out _).mono ?_
    rintro e w' ⟨rfl, hd⟩
    rw [hi]
    go_wp2
    go_ret
    exact ⟨by rw [HE.out]; rfl, hb.trans (hd.mono hb.size)⟩
  | true =>
    obtain ⟨i, j, q, rfl, rfl, hq, hqi, hl, hlt, hin, hjn, hc⟩ := hb0.place hi
    have HX := Lib.hid (hc hl)
    have h15 := hb0.hi
    rw [hb0.size]
    clear hb0 hc hq
    have hb : Below w.heap.size w (w.alloc (.cells #[.int .i64 n, .string b.premium, .string b.cells] 25)) := (Below.refl _ _).alloc (Nat.le_refl _) _
    have V := Lib.hid (VarAt.new w 25 [.int .i64 n, .string b.premium, .string b.cells])
    go_enter Tryz.func129, Tryz.ntmps129
    go_wp2_with fail
    refine (HIN.out _).mono ?_
    rintro e w' ⟨rfl, hd⟩
    rw [hi]
    clear hi
    replace hb := hb.trans (hd.mono hb.size)
    replace V := Lib.hid (V.out.kept hd)
    have c0 := V.out.cell (i := 0) rfl
    have c2 := V.out.cell (i := 2) rfl
    clear V hd
    have w1 : IntKind.i64.wrap (q : Int) = q := IntWalk.i64_in _ (by omega)
    have w2 : IntKind.i64.wrap ((q : Int) + (j : Int)) = (q : Int) + j := IntWalk.i64_in _ (by omega)
    have w3 : ((q : Int) + (j : Int)).toNat = q + j := by omega
    have w4 : (0 : Int) ≤ (q : Int) + (j : Int) := by omega
    have w5 : (q : Int) + (j : Int) < (b.cells.size : Int) := by omega
    go_wp2_with fail
    go_ret
    exact ⟨by rw [HX.out]; rfl, hb⟩
set_option maxRecDepth 100000 in
set_option maxHeartbeats 1000000 in
theorem letter_any (b : Brd) (n : Nat) (r c : Int) (w : World) (hb0 : b.Good n) :
    Calls Tryz.prog 153 #[.agg #[.int .i64 b.size, .string b.premium, .string b.cells], .int .i64 r, .int .i64 c] w fun e w' => e = .returned (.bool (fullC (b.cell r c))) ∧ Below w.heap.size w w' := by
  have hb : Below w.heap.size w (w.alloc (.cells #[.int .i64 b.size, .string b.premium, .string b.cells] 25)) := (Below.refl _ _).alloc (Nat.le_refl _) _
  have HC : Hid (∀ W, Calls Tryz.prog 129 #[.agg #[.int .i64 b.size, .string b.premium, .string b.cells], .int .i64 r, .int .i64 c] W fun e w' => e = .returned (.int .u8 ((b.cell r c).toNat : Int)) ∧ Below W.heap.size W w') := Lib.hid (fun W => cell_any b n r c W hb0)
  have HE : Hid (fullC (b.cell r c) = ((((b.cell r c).toNat : Int) != 0) && (((b.cell r c).toNat : Int) != 46))) := Lib.hid (full_int _)
  clear hb0
  generalize b.cell r c = x at *
  cases h1 : ((x.toNat : Int) != 0) with
  | false =>
    rw [h1] at HE
    go_enter Tryz.func153, Tryz.ntmps153
    go_wp2_with fail
    refine (HC.out _).mono ?_
    rintro e w' ⟨rfl, hd⟩
    have hb2 := hb.trans (hd.mono hb.size)
    clear hd hb
    go_wp2
    go_ret
    exact ⟨by rw [HE.out]; rfl, hb2⟩
  | true =>
    rw [h1] at HE
    go_enter Tryz.func153, Tryz.ntmps153
    go_wp2_with fail
    refine (HC.out _).mono ?_
    rintro e w' ⟨rfl, hd⟩
    have hb2 := hb.trans (hd.mono hb.size)
    clear hd hb
    go_wp2
    go_ret
    exact ⟨by rw [HE.out]; rfl, hb2⟩
set_option maxRecDepth 100000 in
set_option maxHeartbeats 1000000 in
theorem on_any (b : Brd) (n : Nat) (r c : Int) (w : World) (hb0 : b.Good n) :
    Calls Tryz.prog 191 #[.agg #[.int .i64 b.size, .string b.premium, .string b.cells], .agg #[.int .i64 r, .int .i64 c]] w fun e w' => e = .returned (.bool (fullC (b.cell r c))) ∧ Below w.heap.size w w' := by
  have hb : Below w.heap.size w ((w.alloc (.cells #[.int .i64 b.size, .string b.premium, .string b.cells] 25)).alloc (.cells #[.int .i64 r, .int .i64 c] 73)) := ((Below.refl _ _).alloc (Nat.le_refl _) _).alloc (by simp) _
  go_enter Tryz.func191, Tryz.ntmps191
  go_wp2_with fail
  refine (letter_any b n r c _ hb0).mono ?_
  rintro e w' ⟨rfl, hd⟩
  replace hb := hb.trans (hd.mono hb.size)
  clear hd
  go_wp2
  go_ret
  exact ⟨rfl, hb⟩
end Go.Proofs.YtjdcdhhbgijaoaaGreatDoor

namespace Go.Proofs.YtjdcdhhbgijaoaaGreatDoor
open Go.ChangeShapes Go.WideShapes Go.ChangeAt Go.RowKit Go.Sort

def dirV (down : Bool) : Value := if down then .iface 255 (.agg #[]) else .iface 256 (.agg #[])
theorem directionOf_any (down : Bool) (w : World) : Calls Tryz.prog 242 #[.bool down] w fun e w' => e = .returned (dirV down) ∧ w = w' := by
  cases down
  · go_enter Tryz.func242, Tryz.ntmps242
    go_wp2
    go_ret
    exact ⟨rfl, rfl⟩
  · go_enter Tryz.func242, Tryz.ntmps242
    go_wp2
    go_ret
    exact ⟨rfl, rfl⟩
theorem rcross_any (w : World) : Calls Tryz.prog 347 #[.agg #[]] w fun e w' => e = .returned (dirV true) ∧ Below w.heap.size w w' := by
  go_enter Tryz.func347, Tryz.ntmps347
  go_wp2
  go_ret
  exact ⟨rfl, (Below.refl _ _).alloc (Nat.le_refl _) _⟩
theorem dcross_any (w : World) : Calls Tryz.prog 345 #[.agg #[]] w fun e w' => e = .returned (dirV false) ∧ Below w.heap.size w w' := by
  go_enter Tryz.func345, Tryz.ntmps345
  go_wp2
  go_ret
  exact ⟨rfl, (Below.refl _ _).alloc (Nat.le_refl _) _⟩
theorem rat_any (r c k : Int) (w : World) (h : -9223372036854775808 ≤ c + k ∧ c + k ≤ 9223372036854775807) : Calls Tryz.prog 346 #[.agg #[], .int .i64 r, .int .i64 c, .int .i64 k] w fun e w' => e = .returned (.agg #[.int .i64 r, .int .i64 (c + k)]) ∧ Below w.heap.size w w' := by
  obtain ⟨h1, h2⟩ := h
  go_enter Tryz.func346, Tryz.ntmps346
  go_wp2
  go_returns
  exact ⟨rfl, by go_grown⟩
theorem dat_any (r c k : Int) (w : World) (h : -9223372036854775808 ≤ r + k ∧ r + k ≤ 9223372036854775807) : Calls Tryz.prog 344 #[.agg #[], .int .i64 r, .int .i64 c, .int .i64 k] w fun e w' => e = .returned (.agg #[.int .i64 (r + k), .int .i64 c]) ∧ Below w.heap.size w w' := by
  obtain ⟨h1, h2⟩ := h
  go_enter Tryz.func344, Tryz.ntmps344
  go_wp2
  go_returns
  exact ⟨rfl, by go_grown⟩
/-! ### Plain: letters along a line -/
theorem let_ascii {c : UInt8} (h : letB (c.toNat : Int) = true) : c.toNat < 128 := by
  unfold letB smallB capB at h
  simp only [Bool.or_eq_true, Bool.and_eq_true, decide_eq_true_eq] at h
  omega
end Go.Proofs.YtjdcdhhbgijaoaaGreatDoor
