/- Contracts: the program's placed words and the squares of a play. Go's tables of unicode and unicode/utf8 hold what is laid (CEnv). -/
import Derived.Test.YtpkadgibfmjmcaaGreatDoorPlaP
import Derived.Test.YtpkadgibfmjmcaaGreatDoorBrI
import Derived.Test.YtpkadgibfmjmcaaGreatDoorBrC
namespace Go.Proofs.YtpkadgibfmjmcaaGreatDoor
open Go.ChangeShapes Go.WideShapes Go.ChangeAt Go.RowKit Go.Sort

/-- Go's tables -/
def CEnv (w : World) : Prop := Lib.CaseVar 1 Lib.caseA w ∧ Lib.Utf8Tabs 2 3 w
theorem CEnv.kept {w w' : World} (h : CEnv w) (hb : Below w.heap.size w w') : CEnv w' :=
  ⟨Lib.CaseVar_below h.1 hb, fun c hc => cell_kept (h.2.1 c hc) hb, fun i hi => ⟨cell_kept (h.2.2 i hi).1 hb, cell_kept (h.2.2 i hi).2 hb⟩⟩
theorem enc_len4 (r : Int) : (Lib.encodeRune r).length ≤ 4 := by
  unfold Lib.encodeRune Lib.encodeRuneZ
  rw [List.length_map]
  split
  · simp
  · split
    · simp
    · split
      · simp
      · split <;> simp
theorem low_len : ∀ (k : Nat) (l : List UInt8), l.length ≤ k → (Lib.mapD Lib.toLowerU l).length ≤ 4 * l.length
  | k, [], _ => by simp [Lib.mapD, Lib.mapGoD]
  | 0, b :: t, h => by simp at h
  | k + 1, b :: t, hk => by
    have hne : (b :: t : List UInt8) ≠ [] := by simp
    have hw1 := Lib.decodeL_width (b :: t)
    have hw2 := Lib.decodeL_le (b :: t) hne
    have hr := (Lib.toLowerU_range (Lib.decodeL (b :: t)).1 (Lib.decodeL_rune _)).1
    have hst := Lib.mapD_step Lib.toLowerU (b :: t) hne
    rw [if_pos hr] at hst
    rw [hst, List.length_append]
    have h1 := enc_len4 (Lib.toLowerU (Lib.decodeL (b :: t)).1)
    have hd : ((b :: t).drop (Lib.decodeL (b :: t)).2).length = (b :: t).length - (Lib.decodeL (b :: t)).2 := by simp
    have hlen : (b :: t).length ≤ k + 1 := hk
    have := low_len k ((b :: t).drop (Lib.decodeL (b :: t)).2) (by omega)
    omega
set_option maxHeartbeats 1000000 in
theorem isPlaced_any (s : ByteArray) (w : World) (hs : s.size ≤ 1048576) (hE : CEnv w) : Calls Tryz.prog 198 #[.string s] w fun e w' => e = .returned (.bool (placedL s.data.toList)) ∧ Below w.heap.size w w' := by
  have hl : s.data.toList.length = s.size := by simp
  have HLW : Hid (∀ W, CEnv W → Calls Tryz.prog 205 #[.string s] W fun e w' => e = .returned (.string (mkB (Lib.toLowerD s.data.toList))) ∧ Below W.heap.size W w') := Lib.hid (fun W h => Tryz.strings_ToLower_any s W (by omega) h.1 h.2)
  have HIW : Hid (∀ W, Calls Tryz.prog 178 #[.string (mkB (Lib.toLowerD s.data.toList))] W fun e w' => e = .returned (.bool (wordL (Lib.toLowerD s.data.toList))) ∧ Below W.heap.size W w') := Lib.hid (fun W => by
    have := IsWord_any (mkB (Lib.toLowerD s.data.toList)) W (by
      rw [mkB_size]
      have := low_len s.data.toList.length s.data.toList (Nat.le_refl _)
      unfold Lib.toLowerD
      omega)
    rwa [mkB_data] at this)
  have HP := Lib.hid (placed_eq s.data.toList)
  have HSZ : Hid ((mkB (Lib.toLowerD s.data.toList)).size = (Lib.toLowerD s.data.toList).length) := Lib.hid (mkB_size _)
  have hsb : (mkB (Lib.toLowerD s.data.toList)).size ≤ 9223372036854775807 := by
    rw [mkB_size]
    have := low_len s.data.toList.length s.data.toList (Nat.le_refl _)
    unfold Lib.toLowerD
    omega
  have HL := Lib.hid hl
  clear hl
  have HE := Lib.hid hE
  clear hE
  have hb : Below w.heap.size w w := Below.refl _ _
  cases hw : wordL (Lib.toLowerD s.data.toList) with
  | false =>
    have HN : Hid (placedL s.data.toList = false) := Lib.hid (by rw [← HP.out, hw]; rfl)
    go_enter Tryz.func198, Tryz.ntmps198
    go_wp2_with fail
    refine (HLW.out _ HE.out).mono ?_
    rintro e w1 ⟨rfl, hd⟩
    replace hb := hb.trans (hd.mono hb.size)
    replace HE := Lib.hid (HE.out.kept hd)
    clear hd
    go_wp2_with fail
    refine (HIW.out _).mono ?_
    rintro e w2 ⟨rfl, hd⟩
    rw [hw]
    clear hw
    replace hb := hb.trans (hd.mono hb.size)
    replace HE := Lib.hid (HE.out.kept hd)
    clear hd
    go_wp2
    go_ret
    exact ⟨ret_bool HN.out.symm, hb⟩
  | true =>
    have HN : Hid (placedL s.data.toList = decide ((mkB (Lib.toLowerD s.data.toList)).size = s.size)) := Lib.hid (by rw [← HP.out, hw, HSZ.out, HL.out, Bool.true_and])
    have HEQ : Hid (∀ t : ByteArray, decide (t.size = s.size) = ((s.size : Int) == (t.size : Int))) := Lib.hid (fun t => by
      rw [Bool.eq_iff_iff, decide_eq_true_iff, beq_iff_eq]; omega)
    go_enter Tryz.func198, Tryz.ntmps198
    go_wp2_with fail
    refine (HLW.out _ HE.out).mono ?_
    rintro e w1 ⟨rfl, hd⟩
    replace hb := hb.trans (hd.mono hb.size)
    replace HE := Lib.hid (HE.out.kept hd)
    clear hd
    go_wp2_with fail
    refine (HIW.out _).mono ?_
    rintro e w2 ⟨rfl, hd⟩
    rw [hw]
    clear hw
    replace hb := hb.trans (hd.mono hb.size)
    replace HE := Lib.hid (HE.out.kept hd)
    clear hd
    go_wp2_with fail
    refine (HLW.out _ HE.out).mono ?_
    rintro e w3 ⟨rfl, hd⟩
    replace hb := hb.trans (hd.mono hb.size)
    replace HE := Lib.hid (HE.out.kept hd)
    clear hd
    generalize mkB (Lib.toLowerD s.data.toList) = t at *
    go_wp2
    go_ret
    exact ⟨ret_bool (by rw [HN.out, HEQ.out]), hb⟩
theorem isMain_any (s : ByteArray) (w : World) (hs : s.size ≤ 1048576) (hE : CEnv w) : Calls Tryz.prog 162 #[.string s] w fun e w' => e = .returned (.bool (mainL s.data.toList)) ∧ Below w.heap.size w w' := by
  have hl : s.data.toList.length = s.size := by simp
  by_cases h2 : 2 ≤ s.size
  · have HN : Hid (mainL s.data.toList = placedL s.data.toList) := Lib.hid (by unfold mainL; rw [hl, decide_eq_true h2]; rfl)
    clear hl
    go_enter Tryz.func162, Tryz.ntmps162
    go_wp2_with fail
    refine (isPlaced_any s _ hs hE).mono ?_
    rintro e w1 ⟨rfl, hd⟩
    go_wp2
    go_ret
    exact ⟨ret_bool HN.out.symm, hd⟩
  · have HN : Hid (mainL s.data.toList = false) := Lib.hid (by unfold mainL; rw [hl, decide_eq_false h2]; rfl)
    clear hl
    go_enter Tryz.func162, Tryz.ntmps162
    go_wp2
    go_ret
    exact ⟨ret_bool HN.out.symm, Below.refl _ _⟩
/-! ### The squares of a play -/
def Ply.sr (p : Ply) (k : Int) : Int := if p.down then p.row + k else p.row
def Ply.sc (p : Ply) (k : Int) : Int := if p.down then p.col else p.col + k
theorem Brd.Good.sq {b : Brd} {n : Nat} (h : b.Good n) (p : Ply) (k : Int) : b.cell (p.sr k) (p.sc k) = b.view p p.r (p.c + k) := by
  rw [h.view]
  unfold Ply.sr Ply.sc Ply.r Ply.c
  cases p.down <;> rfl
set_option maxRecDepth 100000 in
set_option maxHeartbeats 2000000 in
theorem square_any (p : Ply) (k : Int) (w : World) (hk : -100 ≤ k ∧ k ≤ 100) (hr : -100 ≤ p.row ∧ p.row ≤ 100) (hc : -100 ≤ p.col ∧ p.col ≤ 100) :
    Calls Tryz.prog 164 #[.agg #[.int .i64 p.row, .int .i64 p.col, .bool p.down, .string p.word], .int .i64 k] w fun e w' => e = .returned (.agg #[.int .i64 (p.sr k), .int .i64 (p.sc k)]) ∧ Below w.heap.size w w' := by
  obtain ⟨r, c, d, s⟩ := p
  obtain ⟨hk1, hk2⟩ := hk
  obtain ⟨hr1, hr2⟩ := hr
  obtain ⟨hc1, hc2⟩ := hc
  simp only at hr1 hr2 hc1 hc2
  obtain ⟨w2, hw2⟩ : ∃ w2, w2 = (w.alloc (.cells #[.int .i64 r, .int .i64 c, .bool d, .string s] 38)).alloc (.cells #[.int .i64 0, .int .i64 0] 150) := ⟨_, rfl⟩
  have hb : Below w.heap.size w w2 := by rw [hw2]; exact ((Below.refl _ _).alloc (Nat.le_refl _) _).alloc (by simp) _
  have VP : Hid (VarAt w2 w.heap.size 38 [.int .i64 r, .int .i64 c, .bool d, .string s]) := by
    rw [hw2]
    exact Lib.hid ((VarAt.new w 38 [.int .i64 r, .int .i64 c, .bool d, .string s]).kept ((Below.refl _ _).alloc (Nat.le_refl _) _))
  have V0 : Hid (VarAt w2 (w.heap.size + 1) 150 [.int .i64 0, .int .i64 0]) := by
    rw [hw2]
    have := VarAt.new (w.alloc (.cells #[.int .i64 r, .int .i64 c, .bool d, .string s] 38)) 150 [.int .i64 0, .int .i64 0]
    simp only [World.size_alloc] at this
    exact Lib.hid this
  have HW2 := Lib.hid hw2
  clear hw2
  cases d with
  | true =>
    have HA : Hid (∀ W, Calls Tryz.prog 265 #[.agg #[], .int .i64 r, .int .i64 c, .int .i64 k] W fun e w' => e = .returned (.agg #[.int .i64 (r + k), .int .i64 c]) ∧ Below W.heap.size W w') := Lib.hid (fun W => dat_any r c k W (by omega))
    go_enter Tryz.func164, Tryz.ntmps164
    go_upto_region 1 with fail
    rw [← HW2.out]
    clear HW2
    have hd : Below w2.heap.size w2 w2.drew := (Below.refl _ _).drew
    replace hb := hb.trans (hd.mono hb.size)
    replace VP := Lib.hid (VP.out.kept hd)
    replace V0 := Lib.hid (V0.out.kept hd)
    clear hd
    have q0 := V0.out.cell (i := 0) rfl
    have q1 := V0.out.cell (i := 1) rfl
    have p0 := V0.out.free 0
    have p1 := V0.out.free 1
    go_region_held3 (fun w' => w'.cell? ⟨w.heap.size, 0, none⟩ = some (.int .i64 r) ∧ w'.cell? ⟨w.heap.size, 1, none⟩ = some (.int .i64 c) ∧ w'.cell? ⟨w.heap.size, 2, none⟩ = some (.bool true))
      (first | exact ⟨VP.out.cell (i := 0) rfl, VP.out.cell (i := 1) rfl, VP.out.cell (i := 2) rfl⟩ | exact ⟨set2_cell (by omega) (VP.out.cell (i := 0) rfl), set2_cell (by omega) (VP.out.cell (i := 1) rfl), set2_cell (by omega) (VP.out.cell (i := 2) rfl)⟩)
      ((first | (go_at_call 167; refine (directionOf_any true _).mono ?_; rintro e wq ⟨rfl, rfl⟩; rw [show dirV true = .iface 219 (.agg #[]) from rfl]) | (go_at_call 265; refine (HA.out _).mono ?_; rintro e wq ⟨rfl, hd⟩; replace VP := Lib.hid (VP.out.kept hd); replace V0 := Lib.hid (V0.out.kept hd); replace hb := hb.trans (hd.mono hb.size); clear hd q0 q1 p0 p1; have q0 := V0.out.cell (i := 0) rfl; have q1 := V0.out.cell (i := 1) rfl; have p0 := V0.out.free 0; have p1 := V0.out.free 1)))
    all_goals
      obtain ⟨o0, k0⟩ := V0.out.set 0 (.int .i64 (r + k))
      obtain ⟨o1, k1⟩ := o0.set 1 (.int .i64 c)
      have GG := grownBy_trans k0 k1
      have hb9 := hb.grown GG hb.size (fun q h => by cases h; omega)
      have e0 := o1.cell (i := 0) (v := .int .i64 (r + k)) rfl
      have e1 := o1.cell (i := 1) (v := .int .i64 c) rfl
      clear o0 o1 k0 k1 GG
      go_wp2
      refine bodyPost_ret (v := .agg #[.int .i64 (r + k), .int .i64 c]) (by simp [results, Tryz.results164, go_sem, e0, e1]) rfl ?_
      exact ⟨rfl, hb9⟩
  | false =>
    have HA : Hid (∀ W, Calls Tryz.prog 267 #[.agg #[], .int .i64 r, .int .i64 c, .int .i64 k] W fun e w' => e = .returned (.agg #[.int .i64 r, .int .i64 (c + k)]) ∧ Below W.heap.size W w') := Lib.hid (fun W => rat_any r c k W (by omega))
    go_enter Tryz.func164, Tryz.ntmps164
    go_upto_region 1 with fail
    rw [← HW2.out]
    clear HW2
    have hd : Below w2.heap.size w2 w2.drew := (Below.refl _ _).drew
    replace hb := hb.trans (hd.mono hb.size)
    replace VP := Lib.hid (VP.out.kept hd)
    replace V0 := Lib.hid (V0.out.kept hd)
    clear hd
    have q0 := V0.out.cell (i := 0) rfl
    have q1 := V0.out.cell (i := 1) rfl
    have p0 := V0.out.free 0
    have p1 := V0.out.free 1
    go_region_held3 (fun w' => w'.cell? ⟨w.heap.size, 0, none⟩ = some (.int .i64 r) ∧ w'.cell? ⟨w.heap.size, 1, none⟩ = some (.int .i64 c) ∧ w'.cell? ⟨w.heap.size, 2, none⟩ = some (.bool false))
      (first | exact ⟨VP.out.cell (i := 0) rfl, VP.out.cell (i := 1) rfl, VP.out.cell (i := 2) rfl⟩ | exact ⟨set2_cell (by omega) (VP.out.cell (i := 0) rfl), set2_cell (by omega) (VP.out.cell (i := 1) rfl), set2_cell (by omega) (VP.out.cell (i := 2) rfl)⟩)
      ((first | (go_at_call 167; refine (directionOf_any false _).mono ?_; rintro e wq ⟨rfl, rfl⟩; rw [show dirV false = .iface 220 (.agg #[]) from rfl]) | (go_at_call 267; refine (HA.out _).mono ?_; rintro e wq ⟨rfl, hd⟩; replace VP := Lib.hid (VP.out.kept hd); replace V0 := Lib.hid (V0.out.kept hd); replace hb := hb.trans (hd.mono hb.size); clear hd q0 q1 p0 p1; have q0 := V0.out.cell (i := 0) rfl; have q1 := V0.out.cell (i := 1) rfl; have p0 := V0.out.free 0; have p1 := V0.out.free 1)))
    all_goals
      obtain ⟨o0, k0⟩ := V0.out.set 0 (.int .i64 r)
      obtain ⟨o1, k1⟩ := o0.set 1 (.int .i64 (c + k))
      have GG := grownBy_trans k0 k1
      have hb9 := hb.grown GG hb.size (fun q h => by cases h; omega)
      have e0 := o1.cell (i := 0) (v := .int .i64 r) rfl
      have e1 := o1.cell (i := 1) (v := .int .i64 (c + k)) rfl
      clear o0 o1 k0 k1 GG
      go_wp2
      refine bodyPost_ret (v := .agg #[.int .i64 r, .int .i64 (c + k)]) (by simp [results, Tryz.results164, go_sem, e0, e1]) rfl ?_
      exact ⟨rfl, hb9⟩
end Go.Proofs.YtpkadgibfmjmcaaGreatDoor
