/- Contracts: the reference's grids: a square, a slot's squares, whether a grid is valid. For grids of at most 5 rows and columns. -/
import Derived.Test.YtjknpmdmchlfcaaGrP
import Derived.Test.YtjknpmdmchlfcaaLex
import Derived.IntWalk
namespace Go.Proofs.Ytjknpmdmchlfcaa
open Go.ChangeShapes Go.WideShapes Go.ChangeAt Go.RowKit Go.Sort

/-- a grid lies at an address -/
def GAt (w : World) (b o : Nat) (R C : Int) (s : ByteArray) : Prop :=
  w.cell? ⟨b, o, none⟩ = some (.int .i64 R) ∧ w.cell? ⟨b, o + 1, none⟩ = some (.int .i64 C) ∧ w.cell? ⟨b, o + 2, none⟩ = some (.string s)
theorem GAt.kept {w w' : World} {b o : Nat} {R C : Int} {s : ByteArray} (h : GAt w b o R C s) (hb : Below w.heap.size w w') : GAt w' b o R C s :=
  ⟨cell_kept h.1 hb, cell_kept h.2.1 hb, cell_kept h.2.2 hb⟩
theorem GAt.drew {w w' : World} {b o : Nat} {R C : Int} {s : ByteArray} (h : GAt w b o R C s) (hb : Drew w w') : GAt w' b o R C s := h.kept (hb.below _)
theorem GAt.grown {w w' : World} {b o : Nat} {R C : Int} {s : ByteArray} (h : GAt w b o R C s) {row : Option Nat} (hg : w.grownBy w' row) (hne : some b ≠ row) : GAt w' b o R C s :=
  ⟨hg.cell h.1 hne, hg.cell h.2.1 hne, hg.cell h.2.2 hne⟩
theorem GAt.new (w : World) (R C : Int) (s : ByteArray) (t : TypeId) : GAt (w.alloc (.cells #[.int .i64 R, .int .i64 C, .string s] t)) w.heap.size 0 R C s :=
  ⟨cell_new0 w _ t rfl, cell_new0 w _ t rfl, cell_new0 w _ t rfl⟩
theorem GAt.lt {w : World} {b o : Nat} {R C : Int} {s : ByteArray} (h : GAt w b o R C s) : b < w.heap.size := block_lt h.1
def Slt.enc (s : Slt) : List Value := [.int .i64 (s.row : Int), .int .i64 (s.col : Int), .bool s.down, .int .i64 (s.len : Int)]
theorem Slt.enc_len (s : Slt) : (Slt.enc s).length = 4 := rfl
/-- a slot lies at an address -/
def SAt (w : World) (b o : Nat) (s : Slt) : Prop :=
  w.cell? ⟨b, o, none⟩ = some (.int .i64 (s.row : Int)) ∧ w.cell? ⟨b, o + 1, none⟩ = some (.int .i64 (s.col : Int)) ∧ w.cell? ⟨b, o + 2, none⟩ = some (.bool s.down) ∧ w.cell? ⟨b, o + 3, none⟩ = some (.int .i64 (s.len : Int))
theorem SAt.kept {w w' : World} {b o : Nat} {s : Slt} (h : SAt w b o s) (hb : Below w.heap.size w w') : SAt w' b o s :=
  ⟨cell_kept h.1 hb, cell_kept h.2.1 hb, cell_kept h.2.2.1 hb, cell_kept h.2.2.2 hb⟩
theorem SAt.grown {w w' : World} {b o : Nat} {s : Slt} (h : SAt w b o s) {row : Option Nat} (hg : w.grownBy w' row) (hne : some b ≠ row) : SAt w' b o s :=
  ⟨hg.cell h.1 hne, hg.cell h.2.1 hne, hg.cell h.2.2.1 hne, hg.cell h.2.2.2 hne⟩
/-- what is on a square of a row; a block behind its end -/
def atL (C : Nat) (L : List UInt8) (r c : Nat) : UInt8 := if c < C then L.getD (r * C + c) 0 else 35
theorem atL_in {C : Nat} {s : ByteArray} {r c q : Nat} (hc : c < C) (hq : q = r * C) (h : q + c < s.size) : atL C s.data.toList r c = s[q + c] := by
  subst hq
  unfold atL
  rw [if_pos hc, List.getD_eq_getElem?_getD, List.getElem?_eq_getElem (by simpa using h)]
  rfl
theorem atL_out {C : Nat} {L : List UInt8} {r c : Nat} (hc : ¬ c < C) : atL C L r c = 35 := if_neg hc
theorem row_lt {R C r c : Nat} (hr : r < R) (hc : c < C) : r * C + c < R * C := by
  have : (r + 1) * C ≤ R * C := Nat.mul_le_mul_right _ (by omega)
  rw [Nat.succ_mul] at this
  omega
theorem small_mul {R C : Nat} (hR : R ≤ 5) (hC : C ≤ 5) : R * C ≤ 25 := Nat.mul_le_mul hR hC
set_option maxHeartbeats 2000000 in
theorem l25At_any (R C r c : Nat) (s : ByteArray) (b o : Nat) (w : World) (hg : GAt w b o R C s) (hr : r < R) (hR : R ≤ 5) (hC : C ≤ 5) (hc : c ≤ 100) (hs : s.size = R * C) :
    Calls Try.prog 101 #[.pointer (some ⟨b, o, none⟩), .int .i64 r, .int .i64 c] w fun e w' => e = .returned (.int .u8 ((atL C s.data.toList r c).toNat : Int)) ∧ Drew w w' := by
  obtain ⟨g0, g1, g2⟩ := hg
  have hw : withinB (r : Int) 0 ((R : Int) - 1) = true := by unfold withinB; rw [decide_eq_true (by omega), decide_eq_true (by omega)]; rfl
  by_cases hcc : c < C
  · have hw2 : withinB (c : Int) 0 ((C : Int) - 1) = true := by unfold withinB; rw [decide_eq_true (by omega), decide_eq_true (by omega)]; rfl
    have hlt := row_lt hr hcc
    have hm := small_mul hR hC
    obtain ⟨q, hq⟩ : ∃ q, q = r * C := ⟨_, rfl⟩
    have hq2 : q + c < s.size := by omega
    have HX := Lib.hid (atL_in (s := s) hcc hq hq2)
    have hqi : (r : Int) * (C : Int) = (q : Int) := by rw [hq]; push_cast; rfl
    have hq3 : q ≤ 25 := by omega
    have HS := Lib.hid hs
    clear hs hq hlt hm
    go_enter Try.func101, Try.ntmps101
    go_wp2_with (go_at_call 51; refine (l00In_any _ _ _ _).mono ?_; rintro e w' ⟨rfl, rfl⟩; (first | rw [hw] | rw [hw2]))
    have w1 : IntKind.i64.wrap (q : Int) = q := IntWalk.i64_in _ (by omega)
    have w2 : IntKind.i64.wrap ((q : Int) + (c : Int)) = (q : Int) + c := IntWalk.i64_in _ (by omega)
    have w3 : ((q : Int) + (c : Int)).toNat = q + c := by omega
    have w4 : (0 : Int) ≤ (q : Int) + (c : Int) := by omega
    have w5 : (q : Int) + (c : Int) < (s.size : Int) := by omega
    go_quiet (fail)
    clear w1 w2
    go_wp2
    go_ret
    exact ⟨by rw [HX.out]; rfl, ⟨_, rfl⟩⟩
  · have hw2 : withinB (c : Int) 0 ((C : Int) - 1) = false := by unfold withinB; rw [decide_eq_false (p := (c : Int) ≤ (C : Int) - 1) (by omega), Bool.and_false]
    have HX := Lib.hid (atL_out (L := s.data.toList) (r := r) hcc)
    have HS := Lib.hid hs
    clear hs
    go_enter Try.func101, Try.ntmps101
    go_wp2_with (go_at_call 51; refine (l00In_any _ _ _ _).mono ?_; rintro e w' ⟨rfl, rfl⟩; (first | rw [hw] | rw [hw2]))
    go_ret
    exact ⟨by rw [HX.out]; rfl, Drew.refl _⟩
set_option maxHeartbeats 2000000 in
theorem l25Square_any (R C : Nat) (gs : ByteArray) (s : Slt) (k b o pb po : Nat) (w : World) (hg : GAt w b o R C gs) (hs : SAt w pb po s) (h1 : s.row ≤ 25) (h2 : s.col ≤ 25) (hC : C ≤ 5) (hk : k ≤ 100) :
    Calls Try.prog 100 #[.pointer (some ⟨b, o, none⟩), .pointer (some ⟨pb, po, none⟩), .int .i64 k] w fun e w' => e = .returned (.int .i64 (sqr C s k : Int)) ∧ Drew w w' := by
  obtain ⟨g0, g1, g2⟩ := hg
  obtain ⟨s0, s1, s2, s3⟩ := hs
  cases hd : s.down with
  | true =>
    obtain ⟨q, hq⟩ : ∃ q, q = (s.row + k) * C := ⟨_, rfl⟩
    have hqi : ((s.row : Int) + (k : Int)) * (C : Int) = (q : Int) := by rw [hq]; push_cast; rfl
    have hq3 : q ≤ 625 := by rw [hq]; exact Nat.mul_le_mul (show s.row + k ≤ 125 by omega) hC
    have HX : Hid ((sqr C s k : Int) = (q : Int) + (s.col : Int)) := Lib.hid (by unfold sqr; rw [hd, hq]; simp)
    rw [hd] at s2
    clear hq hd
    go_enter Try.func100, Try.ntmps100
    go_wp2_with fail
    go_quiet (fail)
    go_wp2
    go_ret
    exact ⟨ret_int HX.out.symm, ⟨_, rfl⟩⟩
  | false =>
    obtain ⟨q, hq⟩ : ∃ q, q = s.row * C := ⟨_, rfl⟩
    have hqi : (s.row : Int) * (C : Int) = (q : Int) := by rw [hq]; push_cast; rfl
    have hq3 : q ≤ 125 := by rw [hq]; exact Nat.mul_le_mul h1 hC
    have HX : Hid ((sqr C s k : Int) = (q : Int) + (s.col : Int) + (k : Int)) := Lib.hid (by unfold sqr; rw [hd, hq]; simp)
    rw [hd] at s2
    clear hq hd
    go_enter Try.func100, Try.ntmps100
    go_wp2_with fail
    go_quiet (fail)
    go_wp2
    go_ret
    exact ⟨ret_int HX.out.symm, ⟨_, rfl⟩⟩
def gridCh (c : UInt8) : Bool := (c.toNat : Int) == 35 || (c.toNat : Int) == 46 || smallB c.toNat
def gridAll (s : ByteArray) : Bool := s.data.toList.all gridCh
def gridOk (R C : Int) (s : ByteArray) : Bool := withinB R 1 5 && withinB C 1 5 && decide ((s.size : Int) = R * C) && gridAll s
theorem within_nat {x lo hi : Int} (h0 : 0 ≤ lo) (h : withinB x lo hi = true) : ∃ n : Nat, x = n ∧ lo ≤ (n : Int) ∧ (n : Int) ≤ hi := by
  unfold withinB at h
  simp only [Bool.and_eq_true, decide_eq_true_eq] at h
  exact ⟨x.toNat, by omega, by omega, by omega⟩
theorem grid_r {R C : Int} {s : ByteArray} (h : withinB R 1 5 = false) : gridOk R C s = false := by unfold gridOk; rw [h]; rfl
theorem grid_c {R C : Int} {s : ByteArray} (h : withinB C 1 5 = false) : gridOk R C s = false := by unfold gridOk; rw [h]; simp
theorem grid_s {R C : Int} {s : ByteArray} (h : ¬ (s.size : Int) = R * C) : gridOk R C s = false := by unfold gridOk; rw [decide_eq_false h]; simp
theorem grid_in {R C : Int} {s : ByteArray} (h1 : withinB R 1 5 = true) (h2 : withinB C 1 5 = true) (h : (s.size : Int) = R * C) : gridOk R C s = gridAll s := by unfold gridOk; rw [h1, h2, decide_eq_true h]; rfl
theorem gridCh_yes {c : UInt8} (h : gridCh c = true) (h1 : ((c.toNat : Int) == 35) = false) (h2 : ((c.toNat : Int) == 46) = false) : smallB (c.toNat : Int) = true := by
  unfold gridCh at h; rw [h1, h2] at h; simpa using h
theorem gridCh_no {c : UInt8} (h : gridCh c = false) : ((c.toNat : Int) == 35) = false ∧ ((c.toNat : Int) == 46) = false ∧ smallB (c.toNat : Int) = false := by
  unfold gridCh at h; simpa [and_assoc] using h
theorem gridByte_any (c : UInt8) (w : World) : Calls Try.prog 60 #[.int .u8 (c.toNat : Int)] w fun e w' => e = .returned (.bool (gridCh c)) ∧ w = w' := by
  have HX : Hid (∀ b, gridCh c = b → Ending.returned (.bool b) = Ending.returned (.bool (gridCh c))) := Lib.hid (fun b h => by rw [h])
  cases h1 : ((c.toNat : Int) == 35) with
  | true =>
    have HE : Hid (gridCh c = true) := Lib.hid (by unfold gridCh; rw [h1]; rfl)
    go_enter Try.func60, Try.ntmps60
    go_wp2
    go_ret
    exact ⟨HX.out _ HE.out, rfl⟩
  | false =>
    cases h2 : ((c.toNat : Int) == 46) with
    | true =>
      have HE : Hid (gridCh c = true) := Lib.hid (by unfold gridCh; rw [h1, h2]; rfl)
      go_enter Try.func60, Try.ntmps60
      go_wp2
      go_ret
      exact ⟨HX.out _ HE.out, rfl⟩
    | false =>
      have HE : Hid (gridCh c = smallB (c.toNat : Int)) := Lib.hid (by unfold gridCh; rw [h1, h2]; rfl)
      go_enter Try.func60, Try.ntmps60
      go_wp2_with (go_at_call 102; refine (small_any _ _).mono ?_; rintro e w' ⟨rfl, rfl⟩)
      go_ret
      exact ⟨ret_bool HE.out.symm, rfl⟩
set_option maxHeartbeats 2000000 in
theorem allGrid_any (s : ByteArray) (w : World) (hs : s.size ≤ 9223372036854775807) : Calls Try.prog 59 #[.string s, .func (.func 60) #[] #[]] w fun e w' => e = .returned (.bool (gridAll s)) ∧ w = w' := by
  have hl : s.data.toList.length = s.size := by simp
  have HL := Lib.hid hl
  clear hl
  go_enter Try.func59, Try.ntmps59
  go_wp2
  go_loop [5] (fun i => ∃ k : Nat, k ≤ s.size ∧ i = .int .i64 k ∧ Hid ((s.data.toList.take k).all gridCh = true)) (fun i => s.size - (intOf i).toNat)
  case atStart => exact ⟨0, Nat.zero_le _, rfl, Lib.hid rfl⟩
  case round =>
    obtain ⟨k, hk, rfl, HA⟩ := hrel
    by_cases hlt : k < s.size
    · have HG : Hid (∀ h : k < s.data.toList.length, s.data.toList[k] = s[k]) := Lib.hid (fun h => bytes_get s k hlt)
      cases hsm : gridCh s[k] with
      | false =>
        have HN : Hid (gridAll s = false) := Lib.hid (all_false_of (k := k) (by rw [HL.out]; exact hlt) (by rw [HG.out]; exact hsm))
        go_wp2_with fail
        refine (gridByte_any _ _).mono ?_
        rintro e w' ⟨rfl, rfl⟩
        rw [hsm]
        clear hsm
        go_wp2
        go_ret
        exact ⟨ret_bool HN.out.symm, rfl⟩
      | true =>
        have HN : Hid ((s.data.toList.take (k + 1)).all gridCh = true) := Lib.hid (by rw [take_all_succ (by rw [HL.out]; exact hlt), HA.out, Bool.true_and, HG.out]; exact hsm)
        go_wp2_with fail
        refine (gridByte_any _ _).mono ?_
        rintro e w' ⟨rfl, rfl⟩
        rw [hsm]
        clear hsm
        go_wp2
        go_round
        case rel => exact ⟨k + 1, by omega, by go_num, HN⟩
        case measure => simp [intOf]; omega
    · obtain rfl : k = s.size := by omega
      have HN : Hid (gridAll s = true) := Lib.hid (by have h := HA.out; rwa [← HL.out, List.take_length] at h)
      go_wp2
      go_ret
      exact ⟨ret_bool HN.out.symm, rfl⟩
set_option maxRecDepth 100000 in
set_option maxHeartbeats 2000000 in
theorem ValidGrid_any (R C : Int) (s : ByteArray) (w : World) (hs : s.size ≤ 9223372036854775807) : Calls Try.prog 32 #[.agg #[.int .i64 R, .int .i64 C, .string s]] w fun e w' => e = .returned (.bool (gridOk R C s)) ∧ Below w.heap.size w w' := by
  have hb : Below w.heap.size w (w.alloc (.cells #[.int .i64 R, .int .i64 C, .string s] 31)) := (Below.refl _ _).alloc (Nat.le_refl _) _
  cases h1 : withinB R 1 5 with
  | false =>
    have HN := Lib.hid (grid_r (C := C) (s := s) h1)
    go_enter Try.func32, Try.ntmps32
    go_wp2_with (go_at_call 58; refine (within_any _ _ _ _).mono ?_; rintro e w' ⟨rfl, rfl⟩; rw [h1])
    go_ret
    exact ⟨ret_bool HN.out.symm, hb⟩
  | true =>
    cases h2 : withinB C 1 5 with
    | false =>
      have HN := Lib.hid (grid_c (R := R) (s := s) h2)
      go_enter Try.func32, Try.ntmps32
      go_wp2_with (go_at_call 58; refine (within_any _ _ _ _).mono ?_; rintro e w' ⟨rfl, rfl⟩; first | rw [h1] | rw [h2])
      go_ret
      exact ⟨ret_bool HN.out.symm, hb⟩
    | true =>
      have HIN := Lib.hid (grid_in (s := s) h1 h2)
      have HNO := Lib.hid (grid_s (s := s) (R := R) (C := C))
      obtain ⟨r, rfl, r1, r2⟩ := within_nat (by omega) h1
      obtain ⟨c, rfl, c1, c2⟩ := within_nat (by omega) h2
      obtain ⟨q, hq⟩ : ∃ q, q = r * c := ⟨_, rfl⟩
      have hqi : (r : Int) * (c : Int) = (q : Int) := by rw [hq]; push_cast; rfl
      have hq3 : q ≤ 25 := by rw [hq]; exact small_mul (by omega) (by omega)
      by_cases h3 : s.size = q
      · have HN : Hid (gridOk r c s = gridAll s) := Lib.hid (HIN.out (by rw [hqi, h3]))
        have h4 : ((s.size : Int) == (q : Int)) = true := by rw [h3]; simp
        have HQ := Lib.hid hq
        have H3 := Lib.hid h3
        clear hq h3 HIN HNO
        go_enter Try.func32, Try.ntmps32
        go_wp2_with (first | (go_at_call 58; refine (within_any _ _ _ _).mono ?_; rintro e w' ⟨rfl, rfl⟩; first | rw [h1] | rw [h2]) | (go_at_call 59; refine (allGrid_any s _ hs).mono ?_; rintro e w' ⟨rfl, rfl⟩))
        go_ret
        exact ⟨ret_bool HN.out.symm, hb⟩
      · have HN : Hid (gridOk r c s = false) := Lib.hid (HNO.out (by rw [hqi]; omega))
        have h4 : ((s.size : Int) == (q : Int)) = false := beq_eq_false_iff_ne.2 (by omega)
        have HQ := Lib.hid hq
        clear hq h3 HIN HNO
        go_enter Try.func32, Try.ntmps32
        go_wp2_with (first | (go_at_call 58; refine (within_any _ _ _ _).mono ?_; rintro e w' ⟨rfl, rfl⟩; first | rw [h1] | rw [h2]) | (go_at_call 59; refine (allGrid_any s _ hs).mono ?_; rintro e w' ⟨rfl, rfl⟩))
        go_ret
        exact ⟨ret_bool HN.out.symm, hb⟩
end Go.Proofs.Ytjknpmdmchlfcaa
