/- Contracts: the program's placed words and the squares of a play. Go's tables of unicode and unicode/utf8 hold what is laid (CEnv). · Contracts: the program's test on plays. Go's tables of unicode and unicode/utf8 hold what is laid (CEnv). -/
import Derived.Test.YtjdcdhhbgijaoaaGreatDoorPlaP
import Derived.Test.YtjdcdhhbgijaoaaGreatDoorBrI
import Derived.Test.YtjdcdhhbgijaoaaGreatDoorPlaD
namespace Go.Proofs.YtjdcdhhbgijaoaaGreatDoor
open Go.ChangeShapes Go.WideShapes Go.ChangeAt Go.RowKit Go.Sort

/-- Go's tables -/
def CEnv (w : World) : Prop := Lib.CaseVar 1 Lib.caseA w ∧ Lib.Utf8Tabs 3 4 w
theorem CEnv.kept {w w' : World} (h : CEnv w) (hb : Below w.heap.size w w') : CEnv w' :=
  ⟨Lib.CaseVar_below h.1 hb, fun c hc => cell_kept (h.2.1 c hc) hb, fun i hi => ⟨cell_kept (h.2.2 i hi).1 hb, cell_kept (h.2.2 i hi).2 hb⟩⟩
theorem enc_len4 (r : Int) : (Lib.encodeRune r).length ≤ 4 := by
  unfold Lib.encodeRune Lib.encodeRuneZ
  rw [List.length_map]
  split
  · simp
  · split
    · simp
    · split
      · simp
      · split <;> simp
theorem low_len : ∀ (k : Nat) (l : List UInt8), l.length ≤ k → (Lib.mapD Lib.toLowerU l).length ≤ 4 * l.length
  | k, [], _ => by simp [Lib.mapD, Lib.mapGoD]
  | 0, b :: t, h => by simp at h
  | k + 1, b :: t, hk => by
    have hne : (b :: t : List UInt8) ≠ [] := by simp
    have hw1 := Lib.decodeL_width (b :: t)
    have hw2 := Lib.decodeL_le (b :: t) hne
    have hr := (Lib.toLowerU_range (Lib.decodeL (b :: t)).1 (Lib.decodeL_rune _)).1
    have hst := Lib.mapD_step Lib.toLowerU (b :: t) hne
    rw [if_pos hr] at hst
    rw [hst, List.length_append]
    have h1 := enc_len4 (Lib.toLowerU (Lib.decodeL (b :: t)).1)
    have hd : ((b :: t).drop (Lib.decodeL (b :: t)).2).length = (b :: t).length - (Lib.decodeL (b :: t)).2 := by simp
    have hlen : (b :: t).length ≤ k + 1 := hk
    have := low_len k ((b :: t).drop (Lib.decodeL (b :: t)).2) (by omega)
    omega
set_option maxHeartbeats 1000000 in
theorem isPlaced_any (s : ByteArray) (w : World) (hs : s.size ≤ 1048576) (hE : CEnv w) : Calls Tryz.prog 216 #[.string s] w fun e w' => e = .returned (.bool (placedL s.data.toList)) ∧ Below w.heap.size w w' := by
  have hl : s.data.toList.length = s.size := by simp
  have HLW : Hid (∀ W, CEnv W → Calls Tryz.prog 213 #[.string s] W fun e w' => e = .returned (.string (mkB (Lib.toLowerD s.data.toList))) ∧ Below W.heap.size W w') := Lib.hid (fun W h => Tryz.strings_ToLower_any s W (by omega) h.1 h.2)
  have HIW : Hid (∀ W, Calls Tryz.prog 235 #[.string (mkB (Lib.toLowerD s.data.toList))] W fun e w' => e = .returned (.bool (wordL (Lib.toLowerD s.data.toList))) ∧ Below W.heap.size W w') := Lib.hid (fun W => by
    have := IsWord_any (mkB (Lib.toLowerD s.data.toList)) W (by
      rw [mkB_size]
      have := low_len s.data.toList.length s.data.toList (Nat.le_refl _)
      unfold Lib.toLowerD
      omega)
    rwa [mkB_data] at this)
  have HP := Lib.hid (placed_eq s.data.toList)
  have HSZ : Hid ((mkB (Lib.toLowerD s.data.toList)).size = (Lib.toLowerD s.data.toList).length) := Lib.hid (mkB_size _)
  have hsb : (mkB (Lib.toLowerD s.data.toList)).size ≤ 9223372036854775807 := by
    rw [mkB_size]
    have := low_len s.data.toList.length s.data.toList (Nat.le_refl _)
    unfold Lib.toLowerD
    omega
  have HL := Lib.hid hl
  clear hl
  have HE := Lib.hid hE
  clear hE
  have hb : Below w.heap.size w w := Below.refl _ _
  cases hw : wordL (Lib.toLowerD s.data.toList) with
  | false =>
    have HN : Hid (placedL s.data.toList = false) := Lib.hid (by rw [← HP.out, hw]; rfl)
    go_enter Tryz.func216, Tryz.ntmps216
    go_wp2_with fail
    refine (HLW.out _ HE.out).mono ?_
    rintro e w1 ⟨rfl, hd⟩
    replace hb := hb.trans (hd.mono hb.size)
    replace HE := Lib.hid (HE.out.kept hd)
    clear hd
    go_wp2_with fail
    refine (HIW.out _).mono ?_
    rintro e w2 ⟨rfl, hd⟩
    rw [hw]
    clear hw
    replace hb := hb.trans (hd.mono hb.size)
    replace HE := Lib.hid (HE.out.kept hd)
    clear hd
    go_wp2
    go_ret
    exact ⟨ret_bool HN.out.symm, hb⟩
  | true =>
    have HN : Hid (placedL s.data.toList = decide ((mkB (Lib.toLowerD s.data.toList)).size = s.size)) := Lib.hid (by rw [← HP.out, hw, HSZ.out, HL.out, Bool.true_and])
    have HEQ : Hid (∀ t : ByteArray, decide (t.size = s.size) = ((s.size : Int) == (t.size : Int))) := Lib.hid (fun t => by
      rw [Bool.eq_iff_iff, decide_eq_true_iff, beq_iff_eq]; omega)
    go_enter Tryz.func216, Tryz.ntmps216
    go_wp2_with fail
    refine (HLW.out _ HE.out).mono ?_
    rintro e w1 ⟨rfl, hd⟩
    replace hb := hb.trans (hd.mono hb.size)
    replace HE := Lib.hid (HE.out.kept hd)
    clear hd
    go_wp2_with fail
    refine (HIW.out _).mono ?_
    rintro e w2 ⟨rfl, hd⟩
    rw [hw]
    clear hw
    replace hb := hb.trans (hd.mono hb.size)
    replace HE := Lib.hid (HE.out.kept hd)
    clear hd
    go_wp2_with fail
    refine (HLW.out _ HE.out).mono ?_
    rintro e w3 ⟨rfl, hd⟩
    replace hb := hb.trans (hd.mono hb.size)
    replace HE := Lib.hid (HE.out.kept hd)
    clear hd
    generalize mkB (Lib.toLowerD s.data.toList) = t at *
    go_wp2
    go_ret
    exact ⟨ret_bool (by rw [HN.out, HEQ.out]), hb⟩
theorem isMain_any (s : ByteArray) (w : World) (hs : s.size ≤ 1048576) (hE : CEnv w) : Calls Tryz.prog 137 #[.string s] w fun e w' => e = .returned (.bool (mainL s.data.toList)) ∧ Below w.heap.size w w' := by
  have hl : s.data.toList.length = s.size := by simp
  by_cases h2 : 2 ≤ s.size
  · have HN : Hid (mainL s.data.toList = placedL s.data.toList) := Lib.hid (by unfold mainL; rw [hl, decide_eq_true h2]; rfl)
    clear hl
    go_enter Tryz.func137, Tryz.ntmps137
    go_wp2_with fail
    refine (isPlaced_any s _ hs hE).mono ?_
    rintro e w1 ⟨rfl, hd⟩
    go_wp2
    go_ret
    exact ⟨ret_bool HN.out.symm, hd⟩
  · have HN : Hid (mainL s.data.toList = false) := Lib.hid (by unfold mainL; rw [hl, decide_eq_false h2]; rfl)
    clear hl
    go_enter Tryz.func137, Tryz.ntmps137
    go_wp2
    go_ret
    exact ⟨ret_bool HN.out.symm, Below.refl _ _⟩
/-! ### The squares of a play -/
def Ply.sr (p : Ply) (k : Int) : Int := if p.down then p.row + k else p.row
def Ply.sc (p : Ply) (k : Int) : Int := if p.down then p.col else p.col + k
theorem Brd.Good.sq {b : Brd} {n : Nat} (h : b.Good n) (p : Ply) (k : Int) : b.cell (p.sr k) (p.sc k) = b.view p p.r (p.c + k) := by
  rw [h.view]
  unfold Ply.sr Ply.sc Ply.r Ply.c
  cases p.down <;> rfl
set_option maxRecDepth 100000 in
set_option maxHeartbeats 2000000 in
theorem square_any (p : Ply) (k : Int) (w : World) (hk : -100 ≤ k ∧ k ≤ 100) (hr : -100 ≤ p.row ∧ p.row ≤ 100) (hc : -100 ≤ p.col ∧ p.col ≤ 100) :
    Calls Tryz.prog 177 #[.agg #[.int .i64 p.row, .int .i64 p.col, .bool p.down, .string p.word], .int .i64 k] w fun e w' => e = .returned (.agg #[.int .i64 (p.sr k), .int .i64 (p.sc k)]) ∧ Below w.heap.size w w' := by
  obtain ⟨r, c, d, s⟩ := p
  obtain ⟨hk1, hk2⟩ := hk
  obtain ⟨hr1, hr2⟩ := hr
  obtain ⟨hc1, hc2⟩ := hc
  simp only at hr1 hr2 hc1 hc2
  obtain ⟨w2, hw2⟩ : ∃ w2, w2 = (w.alloc (.cells #[.int .i64 r, .int .i64 c, .bool d, .string s] 30)).alloc (.cells #[.int .i64 0, .int .i64 0] 73) := ⟨_, rfl⟩
  have hb : Below w.heap.size w w2 := by rw [hw2]; exact ((Below.refl _ _).alloc (Nat.le_refl _) _).alloc (by simp) _
  have VP : Hid (VarAt w2 w.heap.size 30 [.int .i64 r, .int .i64 c, .bool d, .string s]) := by
    rw [hw2]
    exact Lib.hid ((VarAt.new w 30 [.int .i64 r, .int .i64 c, .bool d, .string s]).kept ((Below.refl _ _).alloc (Nat.le_refl _) _))
  have V0 : Hid (VarAt w2 (w.heap.size + 1) 73 [.int .i64 0, .int .i64 0]) := by
    rw [hw2]
    have := VarAt.new (w.alloc (.cells #[.int .i64 r, .int .i64 c, .bool d, .string s] 30)) 73 [.int .i64 0, .int .i64 0]
    simp only [World.size_alloc] at this
    exact Lib.hid this
  have HW2 := Lib.hid hw2
  clear hw2
  cases d with
  | true =>
    have HA : Hid (∀ W, Calls Tryz.prog 344 #[.agg #[], .int .i64 r, .int .i64 c, .int .i64 k] W fun e w' => e = .returned (.agg #[.int .i64 (r + k), .int .i64 c]) ∧ Below W.heap.size W w') := Lib.hid (fun W => dat_any r c k W (by omega))
    go_enter Tryz.func177, Tryz.ntmps177
    go_upto_region 1 with fail
    rw [← HW2.out]
    clear HW2
    have hd : Below w2.heap.size w2 w2.drew := (Below.refl _ _).drew
    replace hb := hb.trans (hd.mono hb.size)
    replace VP := Lib.hid (VP.out.kept hd)
    replace V0 := Lib.hid (V0.out.kept hd)
    clear hd
    have q0 := V0.out.cell (i := 0) rfl
    have q1 := V0.out.cell (i := 1) rfl
    have p0 := V0.out.free 0
    have p1 := V0.out.free 1
    go_region_held3 (fun w' => w'.cell? ⟨w.heap.size, 0, none⟩ = some (.int .i64 r) ∧ w'.cell? ⟨w.heap.size, 1, none⟩ = some (.int .i64 c) ∧ w'.cell? ⟨w.heap.size, 2, none⟩ = some (.bool true))
      (first | exact ⟨VP.out.cell (i := 0) rfl, VP.out.cell (i := 1) rfl, VP.out.cell (i := 2) rfl⟩ | exact ⟨set2_cell (by omega) (VP.out.cell (i := 0) rfl), set2_cell (by omega) (VP.out.cell (i := 1) rfl), set2_cell (by omega) (VP.out.cell (i := 2) rfl)⟩)
      ((first | (go_at_call 242; refine (directionOf_any true _).mono ?_; rintro e wq ⟨rfl, rfl⟩; rw [show dirV true = .iface 255 (.agg #[]) from rfl]) | (go_at_call 344; refine (HA.out _).mono ?_; rintro e wq ⟨rfl, hd⟩; replace VP := Lib.hid (VP.out.kept hd); replace V0 := Lib.hid (V0.out.kept hd); replace hb := hb.trans (hd.mono hb.size); clear hd q0 q1 p0 p1; have q0 := V0.out.cell (i := 0) rfl; have q1 := V0.out.cell (i := 1) rfl; have p0 := V0.out.free 0; have p1 := V0.out.free 1)))
    all_goals
      obtain ⟨o0, k0⟩ := V0.out.set 0 (.int .i64 (r + k))
      obtain ⟨o1, k1⟩ := o0.set 1 (.int .i64 c)
      have GG := grownBy_trans k0 k1
      have hb9 := hb.grown GG hb.size (fun q h => by cases h; omega)
      have e0 := o1.cell (i := 0) (v := .int .i64 (r + k)) rfl
      have e1 := o1.cell (i := 1) (v := .int .i64 c) rfl
      clear o0 o1 k0 k1 GG
      go_wp2
      refine bodyPost_ret (v := .agg #[.int .i64 (r + k), .int .i64 c]) (by simp [results, Tryz.results177, go_sem, e0, e1]) rfl ?_
      exact ⟨rfl, hb9⟩
  | false =>
    have HA : Hid (∀ W, Calls Tryz.prog 346 #[.agg #[], .int .i64 r, .int .i64 c, .int .i64 k] W fun e w' => e = .returned (.agg #[.int .i64 r, .int .i64 (c + k)]) ∧ Below W.heap.size W w') := Lib.hid (fun W => rat_any r c k W (by omega))
    go_enter Tryz.func177, Tryz.ntmps177
    go_upto_region 1 with fail
    rw [← HW2.out]
    clear HW2
    have hd : Below w2.heap.size w2 w2.drew := (Below.refl _ _).drew
    replace hb := hb.trans (hd.mono hb.size)
    replace VP := Lib.hid (VP.out.kept hd)
    replace V0 := Lib.hid (V0.out.kept hd)
    clear hd
    have q0 := V0.out.cell (i := 0) rfl
    have q1 := V0.out.cell (i := 1) rfl
    have p0 := V0.out.free 0
    have p1 := V0.out.free 1
    go_region_held3 (fun w' => w'.cell? ⟨w.heap.size, 0, none⟩ = some (.int .i64 r) ∧ w'.cell? ⟨w.heap.size, 1, none⟩ = some (.int .i64 c) ∧ w'.cell? ⟨w.heap.size, 2, none⟩ = some (.bool false))
      (first | exact ⟨VP.out.cell (i := 0) rfl, VP.out.cell (i := 1) rfl, VP.out.cell (i := 2) rfl⟩ | exact ⟨set2_cell (by omega) (VP.out.cell (i := 0) rfl), set2_cell (by omega) (VP.out.cell (i := 1) rfl), set2_cell (by omega) (VP.out.cell (i := 2) rfl)⟩)
      ((first | (go_at_call 242; refine (directionOf_any false _).mono ?_; rintro e wq ⟨rfl, rfl⟩; rw [show dirV false = .iface 256 (.agg #[]) from rfl]) | (go_at_call 346; refine (HA.out _).mono ?_; rintro e wq ⟨rfl, hd⟩; replace VP := Lib.hid (VP.out.kept hd); replace V0 := Lib.hid (V0.out.kept hd); replace hb := hb.trans (hd.mono hb.size); clear hd q0 q1 p0 p1; have q0 := V0.out.cell (i := 0) rfl; have q1 := V0.out.cell (i := 1) rfl; have p0 := V0.out.free 0; have p1 := V0.out.free 1)))
    all_goals
      obtain ⟨o0, k0⟩ := V0.out.set 0 (.int .i64 r)
      obtain ⟨o1, k1⟩ := o0.set 1 (.int .i64 (c + k))
      have GG := grownBy_trans k0 k1
      have hb9 := hb.grown GG hb.size (fun q h => by cases h; omega)
      have e0 := o1.cell (i := 0) (v := .int .i64 r) rfl
      have e1 := o1.cell (i := 1) (v := .int .i64 (c + k)) rfl
      clear o0 o1 k0 k1 GG
      go_wp2
      refine bodyPost_ret (v := .agg #[.int .i64 r, .int .i64 (c + k)]) (by simp [results, Tryz.results177, go_sem, e0, e1]) rfl ?_
      exact ⟨rfl, hb9⟩
end Go.Proofs.YtjdcdhhbgijaoaaGreatDoor

namespace Go.Proofs.YtjdcdhhbgijaoaaGreatDoor
open Go.ChangeShapes Go.WideShapes Go.ChangeAt Go.RowKit Go.Sort

/-! ### Plain -/
theorem Brd.Good.inP {b : Brd} {n : Nat} (_h : b.Good n) (p : Ply) : (withinB p.r 0 (b.size - 1) && withinB p.c 0 (b.size - 1)) = b.inB p.row p.col := by
  unfold Brd.inB Ply.r Ply.c
  cases p.down
  · rfl
  · exact Bool.and_comm _ _
theorem ok_fits {b : Brd} {p : Ply} {n : Nat} (h : b.Good n) (h2 : mainL p.word.data.toList = true) : b.okPlay p = fitsF (b.view p) b.size p.r p.c p.word.data.toList := by
  unfold Brd.okPlay Brd.fits
  rw [h.ok, h2]
  rfl
theorem Brd.Good.last {b : Brd} {n : Nat} (h : b.Good n) {p : Ply} (hi : b.inB p.row p.col = true) {k : Nat} (hk : 2 ≤ k) : b.inB (p.sr ((k : Int) - 1)) (p.sc ((k : Int) - 1)) = true ↔ p.c + k ≤ n := by
  have h1 := h.inB.1 hi
  rw [h.inB]
  unfold Ply.sr Ply.sc Ply.c
  cases p.down <;> simp only [if_true, if_false, Bool.false_eq_true] <;> omega
theorem Ply.c_rng {b : Brd} {n : Nat} (h : b.Good n) {p : Ply} (hi : b.inB p.row p.col = true) : 0 ≤ p.r ∧ p.r < n ∧ 0 ≤ p.c ∧ p.c < n := by
  have h1 := h.inB.1 hi
  unfold Ply.r Ply.c
  cases p.down <;> simp only [if_true, if_false, Bool.false_eq_true] <;> omega

set_option maxRecDepth 100000 in
set_option maxHeartbeats 4000000 in
theorem validOn_any (b : Brd) (p : Ply) (n : Nat) (w : World) (hb0 : b.Good n) (hs : p.word.size ≤ 1048576) (hE : CEnv w) :
    Calls Tryz.prog 125 #[.agg #[.int .i64 p.row, .int .i64 p.col, .bool p.down, .string p.word], .agg #[.int .i64 b.size, .string b.premium, .string b.cells]] w fun e w' => e = .returned (.bool (b.okPlay p)) ∧ Below w.heap.size w w' := by
  have hl : p.word.data.toList.length = p.word.size := by simp
  have HLN := Lib.hid hl
  obtain ⟨w2, hw2⟩ : ∃ w2, w2 = (w.alloc (.cells #[.int .i64 p.row, .int .i64 p.col, .bool p.down, .string p.word] 30)).alloc (.cells #[.int .i64 b.size, .string b.premium, .string b.cells] 25) := ⟨_, rfl⟩
  have hb : Below w.heap.size w w2 := by rw [hw2]; exact ((Below.refl _ _).alloc (Nat.le_refl _) _).alloc (by simp) _
  have VP : Hid (VarAt w2 w.heap.size 30 [.int .i64 p.row, .int .i64 p.col, .bool p.down, .string p.word]) := by
    rw [hw2]
    exact Lib.hid ((VarAt.new w 30 [.int .i64 p.row, .int .i64 p.col, .bool p.down, .string p.word]).kept ((Below.refl _ _).alloc (Nat.le_refl _) _))
  have VB : Hid (VarAt w2 (w.heap.size + 1) 25 [.int .i64 b.size, .string b.premium, .string b.cells]) := by
    rw [hw2]
    have := VarAt.new (w.alloc (.cells #[.int .i64 p.row, .int .i64 p.col, .bool p.down, .string p.word] 30)) 25 [.int .i64 b.size, .string b.premium, .string b.cells]
    simp only [World.size_alloc] at this
    exact Lib.hid this
  have HE := Lib.hid (hE.kept hb)
  have HW2 := Lib.hid hw2
  have HMA : Hid (∀ W, CEnv W → Calls Tryz.prog 137 #[.string p.word] W fun e w' => e = .returned (.bool (mainL p.word.data.toList)) ∧ Below W.heap.size W w') := Lib.hid (fun W h => isMain_any p.word W hs h)
  clear hw2 hE hl
  cases hm : mainL p.word.data.toList with
  | false =>
    have HN : Hid (b.okPlay p = false) := Lib.hid (okPlay_word hm)
    go_enter Tryz.func125, Tryz.ntmps125
    go_upto_region 1 with fail
    rw [← HW2.out]
    clear HW2
    have c0 := VP.out.cell (i := 0) rfl
    have c1 := VP.out.cell (i := 1) rfl
    have c2 := VP.out.cell (i := 2) rfl
    have c3 := VP.out.cell (i := 3) rfl
    have b0 := VB.out.cell (i := 0) rfl
    have b1 := VB.out.cell (i := 1) rfl
    have b2 := VB.out.cell (i := 2) rfl
    go_wp2_with fail
    refine (HMA.out _ HE.out).mono ?_
    rintro e w3 ⟨rfl, hd⟩
    rw [hm]
    clear hm
    replace hb := hb.trans (hd.mono hb.size)
    replace c0 := cell_kept c0 hd
    replace c1 := cell_kept c1 hd
    replace c2 := cell_kept c2 hd
    replace c3 := cell_kept c3 hd
    replace b0 := cell_kept b0 hd
    replace b1 := cell_kept b1 hd
    replace b2 := cell_kept b2 hd
    replace VP := Lib.hid (VP.out.kept hd)
    replace VB := Lib.hid (VB.out.kept hd)
    clear hd
    go_wp2
    go_ret
    exact ⟨ret_bool HN.out.symm, hb⟩
  | true =>
    have HOK := Lib.hid (ok_fits hb0 hm)
    have m2 := (mainL_iff.1 hm).1
    have m12 := main_size hm
    rw [HLN.out] at m2
    cases hi : b.inB p.row p.col with
    | false =>
      have HN : Hid (b.okPlay p = false) := Lib.hid (by rw [HOK.out]; exact fits_in ((hb0.inP p).trans hi))
      go_enter Tryz.func125, Tryz.ntmps125
      go_upto_region 1 with fail
      rw [← HW2.out]
      clear HW2
      have c0 := VP.out.cell (i := 0) rfl
      have c1 := VP.out.cell (i := 1) rfl
      have c2 := VP.out.cell (i := 2) rfl
      have c3 := VP.out.cell (i := 3) rfl
      have b0 := VB.out.cell (i := 0) rfl
      have b1 := VB.out.cell (i := 1) rfl
      have b2 := VB.out.cell (i := 2) rfl
      go_wp2_with fail
      refine (HMA.out _ HE.out).mono ?_
      rintro e w3 ⟨rfl, hd⟩
      rw [hm]
      clear hm
      replace hb := hb.trans (hd.mono hb.size)
      replace c0 := cell_kept c0 hd
      replace c1 := cell_kept c1 hd
      replace c2 := cell_kept c2 hd
      replace c3 := cell_kept c3 hd
      replace b0 := cell_kept b0 hd
      replace b1 := cell_kept b1 hd
      replace b2 := cell_kept b2 hd
      replace VP := Lib.hid (VP.out.kept hd)
      replace VB := Lib.hid (VB.out.kept hd)
      clear hd
      go_wp2_with fail
      refine (inside_any b n p.row p.col _ hb0).mono ?_
      rintro e w4 ⟨rfl, hd⟩
      rw [hi]
      clear hi
      replace hb := hb.trans (hd.mono hb.size)
      clear hd
      go_wp2
      go_ret
      exact ⟨ret_bool HN.out.symm, hb⟩
    | true =>
      have hI0 := (hb0.inP p).trans hi
      have hbx := hb0.inB.1 hi
      have hn15 := hb0.hi
      have HCR := Lib.hid (Ply.c_rng hb0 hi)
      have hlast := hb0.last hi m2
      obtain ⟨sr, hsr⟩ : ∃ sr : Int → Int, ∀ k, sr k = p.sr k := ⟨_, fun _ => rfl⟩
      obtain ⟨sc, hsc⟩ : ∃ sc : Int → Int, ∀ k, sc k = p.sc k := ⟨_, fun _ => rfl⟩
      obtain ⟨f, hf⟩ : ∃ f : Int → UInt8, ∀ k, f k = b.view p p.r (p.c + k) := ⟨_, fun _ => rfl⟩
      have HSQ : Hid (∀ k W, -100 ≤ k ∧ k ≤ 100 → Calls Tryz.prog 177 #[.agg #[.int .i64 p.row, .int .i64 p.col, .bool p.down, .string p.word], .int .i64 k] W fun e w' => e = .returned (.agg #[.int .i64 (sr k), .int .i64 (sc k)]) ∧ Below W.heap.size W w') := Lib.hid (fun k W hk => by rw [hsr, hsc]; exact square_any p k W hk (by omega) (by omega))
      have HON : Hid (∀ k bv W, fullC (f k) = bv → Calls Tryz.prog 191 #[.agg #[.int .i64 b.size, .string b.premium, .string b.cells], .agg #[.int .i64 (sr k), .int .i64 (sc k)]] W fun e w' => e = .returned (.bool bv) ∧ Below W.heap.size W w') := Lib.hid (fun k bv W e => by rw [← e, hf, ← hb0.sq, hsr, hsc]; exact on_any b n _ _ W hb0)
      have HCE : Hid (∀ k W, Calls Tryz.prog 129 #[.agg #[.int .i64 b.size, .string b.premium, .string b.cells], .int .i64 (sr k), .int .i64 (sc k)] W fun e w' => e = .returned (.int .u8 ((f k).toNat : Int)) ∧ Below W.heap.size W w') := Lib.hid (fun k W => by rw [hf, ← hb0.sq, hsr, hsc]; exact cell_any b n _ _ W hb0)
      have HINS : Hid (∀ bv W, b.inB (sr ((p.word.size : Int) - 1)) (sc ((p.word.size : Int) - 1)) = bv → Calls Tryz.prog 206 #[.agg #[.int .i64 b.size, .string b.premium, .string b.cells], .int .i64 (sr ((p.word.size : Int) - 1)), .int .i64 (sc ((p.word.size : Int) - 1))] W fun e w' => e = .returned (.bool bv) ∧ Below W.heap.size W w') := Lib.hid (fun bv W e => by rw [← e]; exact inside_any b n _ _ W hb0)
      have HSZ := Lib.hid hb0.size
      rw [← hsr, ← hsc] at hlast
      have HV : Hid (∀ k : Int, b.view p p.r (p.c + k) = f k) := Lib.hid (fun k => (hf k).symm)
      have HIA : Hid (∀ W, Calls Tryz.prog 206 #[.agg #[.int .i64 b.size, .string b.premium, .string b.cells], .int .i64 p.row, .int .i64 p.col] W fun e w' => e = .returned (.bool true) ∧ Below W.heap.size W w') := Lib.hid (fun W => by have := inside_any b n p.row p.col W hb0; rwa [hi] at this)
      have HI0 := Lib.hid hI0
      clear hb0 hi hI0 hbx hsr hsc hf
      go_enter Tryz.func125, Tryz.ntmps125
      go_upto_region 1 with fail
      rw [← HW2.out]
      clear HW2
      have c0 := VP.out.cell (i := 0) rfl
      have c1 := VP.out.cell (i := 1) rfl
      have c2 := VP.out.cell (i := 2) rfl
      have c3 := VP.out.cell (i := 3) rfl
      have b0 := VB.out.cell (i := 0) rfl
      have b1 := VB.out.cell (i := 1) rfl
      have b2 := VB.out.cell (i := 2) rfl
      go_wp2_with fail
      refine (HMA.out _ HE.out).mono ?_
      rintro e w3 ⟨rfl, hd⟩
      rw [hm]
      clear hm
      replace hb := hb.trans (hd.mono hb.size)
      replace c0 := cell_kept c0 hd
      replace c1 := cell_kept c1 hd
      replace c2 := cell_kept c2 hd
      replace c3 := cell_kept c3 hd
      replace b0 := cell_kept b0 hd
      replace b1 := cell_kept b1 hd
      replace b2 := cell_kept b2 hd
      replace VP := Lib.hid (VP.out.kept hd)
      replace VB := Lib.hid (VB.out.kept hd)
      clear hd
      go_wp2_with fail
      refine (HIA.out _).mono ?_
      rintro e w4 ⟨rfl, hd⟩
      clear HIA
      replace hb := hb.trans (hd.mono hb.size)
      replace c0 := cell_kept c0 hd
      replace c1 := cell_kept c1 hd
      replace c2 := cell_kept c2 hd
      replace c3 := cell_kept c3 hd
      replace b0 := cell_kept b0 hd
      replace b1 := cell_kept b1 hd
      replace b2 := cell_kept b2 hd
      replace VP := Lib.hid (VP.out.kept hd)
      replace VB := Lib.hid (VB.out.kept hd)
      clear hd
      go_wp2_with fail
      refine (HSQ.out _ _ (by omega)).mono ?_
      rintro e w5 ⟨rfl, hd⟩
      replace hb := hb.trans (hd.mono hb.size)
      replace c0 := cell_kept c0 hd
      replace c1 := cell_kept c1 hd
      replace c2 := cell_kept c2 hd
      replace c3 := cell_kept c3 hd
      replace b0 := cell_kept b0 hd
      replace b1 := cell_kept b1 hd
      replace b2 := cell_kept b2 hd
      replace VP := Lib.hid (VP.out.kept hd)
      replace VB := Lib.hid (VB.out.kept hd)
      clear hd
      have VL := Lib.hid (VarAt.new w5 73 [.int .i64 (sr ((p.word.size : Int) - 1)), .int .i64 (sc ((p.word.size : Int) - 1))])
      have hd : Below w5.heap.size w5 (w5.alloc (.cells #[.int .i64 (sr ((p.word.size : Int) - 1)), .int .i64 (sc ((p.word.size : Int) - 1))] 73)) := (Below.refl _ _).alloc (Nat.le_refl _) _
      replace hb := hb.trans (hd.mono hb.size)
      replace c0 := cell_kept c0 hd
      replace c1 := cell_kept c1 hd
      replace c2 := cell_kept c2 hd
      replace c3 := cell_kept c3 hd
      replace b0 := cell_kept b0 hd
      replace b1 := cell_kept b1 hd
      replace b2 := cell_kept b2 hd
      replace VP := Lib.hid (VP.out.kept hd)
      replace VB := Lib.hid (VB.out.kept hd)
      clear hd
      have l0 := VL.out.cell (i := 0) rfl
      have l1 := VL.out.cell (i := 1) rfl
      cases h0 : b.inB (sr ((p.word.size : Int) - 1)) (sc ((p.word.size : Int) - 1)) with
      | false =>
        have HN : Hid (b.okPlay p = false) := Lib.hid (by
          rw [HOK.out]
          refine fits_long ?_
          rw [HLN.out, HSZ.out]
          intro hle
          rw [hlast.2 hle] at h0
          cases h0)
        have H0 := Lib.hid h0
        have H1 : Hid True := Lib.hid trivial
        have H2 : Hid True := Lib.hid trivial
        clear h0
        go_upto_region 4 with fail
        generalize w5.alloc (.cells #[.int .i64 (sr ((p.word.size : Int) - 1)), .int .i64 (sc ((p.word.size : Int) - 1))] 73) = wL at *
        go_upto_region 4 with fail
        have a0 := cell_regrown b0
        have a1 := cell_regrown b1
        have a2 := cell_regrown b2
        have a3 := cell_regrown c0
        have a4 := cell_regrown c1
        have a5 := cell_regrown c2
        have a6 := cell_regrown c3
        have a7 := cell_regrown l0
        have a8 := cell_regrown l1
        refine wp_region_quiet_below (by kernel_rfl) (by kernel_rfl) ?_
        repeat (go_big_quiet_step ((first
          | (go_at_call 206; exact Calls.regrown_of (HINS.out _ _ H0.out))
          | (go_at_call 177; exact Calls.regrown_of (HSQ.out _ _ (by omega)))
          | (go_at_call 191; exact Calls.regrown_of (HON.out _ _ _ (by first | exact H1.out | exact H2.out))))))
        refine wpQuiet_nil ?_
        intro wx hw'
        obtain ⟨⟨dq, oq⟩, hw''⟩ := hw'
        have hdx := below_regrown wL dq oq
        rw [← hw''] at hdx
        clear hw'' a0 a1 a2 a3 a4 a5 a6 a7 a8
        go_wp2
        go_ret
        exact ⟨ret_bool HN.out.symm, hb.trans (hdx.mono hb.size)⟩
      | true =>
        have hlen := hlast.1 h0
        have H0 := Lib.hid h0
        clear h0
        cases h1 : fullC (f (-1)) with
        | true =>
          have HN : Hid (b.okPlay p = false) := Lib.hid (by
            rw [HOK.out]
            refine fits_before ?_
            rw [show p.c - 1 = p.c + -1 from rfl, HV.out]
            exact h1)
          have H1 := Lib.hid h1
          have H2 : Hid True := Lib.hid trivial
          clear h1
          go_upto_region 4 with fail
          generalize w5.alloc (.cells #[.int .i64 (sr ((p.word.size : Int) - 1)), .int .i64 (sc ((p.word.size : Int) - 1))] 73) = wL at *
          go_upto_region 4 with fail
          have a0 := cell_regrown b0
          have a1 := cell_regrown b1
          have a2 := cell_regrown b2
          have a3 := cell_regrown c0
          have a4 := cell_regrown c1
          have a5 := cell_regrown c2
          have a6 := cell_regrown c3
          have a7 := cell_regrown l0
          have a8 := cell_regrown l1
          refine wp_region_quiet_below (by kernel_rfl) (by kernel_rfl) ?_
          repeat (go_big_quiet_step ((first
            | (go_at_call 206; exact Calls.regrown_of (HINS.out _ _ H0.out))
            | (go_at_call 177; exact Calls.regrown_of (HSQ.out _ _ (by omega)))
            | (go_at_call 191; exact Calls.regrown_of (HON.out _ _ _ (by first | exact H1.out | exact H2.out))))))
          refine wpQuiet_nil ?_
          intro wx hw'
          obtain ⟨⟨dq, oq⟩, hw''⟩ := hw'
          have hdx := below_regrown wL dq oq
          rw [← hw''] at hdx
          clear hw'' a0 a1 a2 a3 a4 a5 a6 a7 a8
          go_wp2
          go_ret
          exact ⟨ret_bool HN.out.symm, hb.trans (hdx.mono hb.size)⟩
        | false =>
          cases h2 : fullC (f (p.word.size : Int)) with
          | true =>
            have HN : Hid (b.okPlay p = false) := Lib.hid (by
              rw [HOK.out]
              refine fits_behind ?_
              rw [HLN.out, HV.out]
              exact h2)
            have H1 := Lib.hid h1
            have H2 := Lib.hid h2
            clear h1 h2
            go_upto_region 4 with fail
            generalize w5.alloc (.cells #[.int .i64 (sr ((p.word.size : Int) - 1)), .int .i64 (sc ((p.word.size : Int) - 1))] 73) = wL at *
            go_upto_region 4 with fail
            have a0 := cell_regrown b0
            have a1 := cell_regrown b1
            have a2 := cell_regrown b2
            have a3 := cell_regrown c0
            have a4 := cell_regrown c1
            have a5 := cell_regrown c2
            have a6 := cell_regrown c3
            have a7 := cell_regrown l0
            have a8 := cell_regrown l1
            refine wp_region_quiet_below (by kernel_rfl) (by kernel_rfl) ?_
            repeat (go_big_quiet_step ((first
              | (go_at_call 206; exact Calls.regrown_of (HINS.out _ _ H0.out))
              | (go_at_call 177; exact Calls.regrown_of (HSQ.out _ _ (by omega)))
              | (go_at_call 191; exact Calls.regrown_of (HON.out _ _ _ (by first | exact H1.out | exact H2.out))))))
            refine wpQuiet_nil ?_
            intro wx hw'
            obtain ⟨⟨dq, oq⟩, hw''⟩ := hw'
            have hdx := below_regrown wL dq oq
            rw [← hw''] at hdx
            clear hw'' a0 a1 a2 a3 a4 a5 a6 a7 a8
            go_wp2
            go_ret
            exact ⟨ret_bool HN.out.symm, hb.trans (hdx.mono hb.size)⟩
          | false =>
            have HYES : Hid (fitTo (b.view p) p.r p.c p.word.data.toList p.word.size = true → b.okPlay p = freeTo (b.view p) p.r p.c p.word.size) := Lib.hid (fun h => by
              have := fits_yes (F := b.view p) HI0.out (l := p.word.data.toList) (by rw [HLN.out, HSZ.out]; exact hlen) (by rw [show p.c - 1 = p.c + -1 from rfl, HV.out]; exact h1) (by rw [HLN.out, HV.out]; exact h2) (by rw [HLN.out]; exact h)
              rw [HLN.out] at this
              rw [HOK.out]
              exact this)
            have HNOT : Hid (fitTo (b.view p) p.r p.c p.word.data.toList p.word.size = false → b.okPlay p = false) := Lib.hid (fun h => by rw [HOK.out]; exact fits_not (by rw [HLN.out]; exact h))
            have H1 := Lib.hid h1
            have H2 := Lib.hid h2
            clear h1 h2
            go_upto_region 4 with fail
            generalize w5.alloc (.cells #[.int .i64 (sr ((p.word.size : Int) - 1)), .int .i64 (sc ((p.word.size : Int) - 1))] 73) = wL at *
            go_upto_region 4 with fail
            have a0 := cell_regrown b0
            have a1 := cell_regrown b1
            have a2 := cell_regrown b2
            have a3 := cell_regrown c0
            have a4 := cell_regrown c1
            have a5 := cell_regrown c2
            have a6 := cell_regrown c3
            have a7 := cell_regrown l0
            have a8 := cell_regrown l1
            refine wp_region_quiet_below (by kernel_rfl) (by kernel_rfl) ?_
            repeat (go_big_quiet_step ((first
              | (go_at_call 206; exact Calls.regrown_of (HINS.out _ _ H0.out))
              | (go_at_call 177; exact Calls.regrown_of (HSQ.out _ _ (by omega)))
              | (go_at_call 191; exact Calls.regrown_of (HON.out _ _ _ (by first | exact H1.out | exact H2.out))))))
            refine wpQuiet_nil ?_
            intro wx hw'
            obtain ⟨⟨dq, oq⟩, hw''⟩ := hw'
            have hdx := below_regrown wL dq oq
            rw [← hw''] at hdx
            clear hw'' a0 a1 a2 a3 a4 a5 a6 a7 a8
            clear l0 l1 VL c0 c1 c2 c3 b0 b1 b2
            replace hb := hb.trans (hdx.mono hb.size)
            replace VP := Lib.hid (VP.out.kept hdx)
            replace VB := Lib.hid (VB.out.kept hdx)
            clear hdx
            go_wp2_with fail
            go_loopw [6, 7] (fun fv iv wr => ∃ k : Nat, k ≤ p.word.size ∧ iv = .int .i64 k ∧ fv = .bool (freeTo (b.view p) p.r p.c k) ∧ Hid (fitTo (b.view p) p.r p.c p.word.data.toList k = true) ∧ Hid (VarAt wr w.heap.size 30 [.int .i64 p.row, .int .i64 p.col, .bool p.down, .string p.word]) ∧ Hid (VarAt wr (w.heap.size + 1) 25 [.int .i64 b.size, .string b.premium, .string b.cells]) ∧ Below w.heap.size w wr) (fun _ iv _ => p.word.size - (intOf iv).toNat)
            case atStart => exact ⟨0, Nat.zero_le _, rfl, rfl, Lib.hid rfl, VP, VB, hb⟩
            case round =>
              clear VP VB hb
              obtain ⟨k, hk, rfl, rfl, HF, VP, VB, hb⟩ := hrel
              have c0 := VP.out.cell (i := 0) rfl
              have c1 := VP.out.cell (i := 1) rfl
              have c2 := VP.out.cell (i := 2) rfl
              have c3 := VP.out.cell (i := 3) rfl
              have b0 := VB.out.cell (i := 0) rfl
              have b1 := VB.out.cell (i := 1) rfl
              have b2 := VB.out.cell (i := 2) rfl
              by_cases hk2 : k < p.word.size
              · have HFS : Hid (freeTo (b.view p) p.r p.c (k + 1) = (freeTo (b.view p) p.r p.c k || f k == 46)) := Lib.hid (by rw [freeTo_succ, HV.out])
                have HGD := Lib.hid (getD_byt hk2)
                go_wp2_with fail
                refine (HSQ.out k _ (by omega)).mono ?_
                rintro e w6 ⟨rfl, hd⟩
                replace hb := hb.trans (hd.mono hb.size)
                replace c0 := cell_kept c0 hd
                replace c1 := cell_kept c1 hd
                replace c2 := cell_kept c2 hd
                replace c3 := cell_kept c3 hd
                replace b0 := cell_kept b0 hd
                replace b1 := cell_kept b1 hd
                replace b2 := cell_kept b2 hd
                replace VP := Lib.hid (VP.out.kept hd)
                replace VB := Lib.hid (VB.out.kept hd)
                clear hd
                have hd : Below w6.heap.size w6 (w6.alloc (.cells #[.int .i64 (sr k), .int .i64 (sc k)] 73)) := (Below.refl _ _).alloc (Nat.le_refl _) _
                replace hb := hb.trans (hd.mono hb.size)
                replace c0 := cell_kept c0 hd
                replace c1 := cell_kept c1 hd
                replace c2 := cell_kept c2 hd
                replace c3 := cell_kept c3 hd
                replace b0 := cell_kept b0 hd
                replace b1 := cell_kept b1 hd
                replace b2 := cell_kept b2 hd
                replace VP := Lib.hid (VP.out.kept hd)
                replace VB := Lib.hid (VB.out.kept hd)
                clear hd
                go_wp2_with fail
                refine (HCE.out k _).mono ?_
                rintro e w7 ⟨rfl, hd⟩
                replace hb := hb.trans (hd.mono hb.size)
                replace c0 := cell_kept c0 hd
                replace c1 := cell_kept c1 hd
                replace c2 := cell_kept c2 hd
                replace c3 := cell_kept c3 hd
                replace b0 := cell_kept b0 hd
                replace b1 := cell_kept b1 hd
                replace b2 := cell_kept b2 hd
                replace VP := Lib.hid (VP.out.kept hd)
                replace VB := Lib.hid (VB.out.kept hd)
                clear hd
                cases e1 : (((f k).toNat : Int) == 46) with
                | true =>
                  have HF2 : Hid (fitTo (b.view p) p.r p.c p.word.data.toList (k + 1) = true) := Lib.hid (fitTo_succ HF.out (.inl (by rw [HV.out]; exact int_46 e1)))
                  have HFE : Hid (freeTo (b.view p) p.r p.c (k + 1) = true) := Lib.hid (by rw [HFS.out, int_46 e1]; simp)
                  go_wp2
                  go_roundw
                  case rel => exact ⟨k + 1, by omega, by go_num, by rw [HFE.out], HF2, VP, VB, hb⟩
                  case measure => simp [intOf]; omega
                | false =>
                  have HFE : Hid (freeTo (b.view p) p.r p.c (k + 1) = freeTo (b.view p) p.r p.c k) := Lib.hid (by
                    rw [HFS.out, show (f k == 46) = false from beq_eq_false_iff_ne.2 (int_not46 e1), Bool.or_false])
                  cases e2 : (((f k).toNat : Int) != (p.word[k].toNat : Int)) with
                  | true =>
                    have HN : Hid (b.okPlay p = false) := Lib.hid (HNOT.out (fitTo_no hk2 (by rw [HV.out]; exact int_not46 e1) (by rw [HV.out, HGD.out]; exact int_ne e2)))
                    go_wp2
                    go_ret
                    exact ⟨ret_bool HN.out.symm, hb⟩
                  | false =>
                    have HF2 : Hid (fitTo (b.view p) p.r p.c p.word.data.toList (k + 1) = true) := Lib.hid (fitTo_succ HF.out (.inr (by rw [HV.out, HGD.out]; exact int_eq e2)))
                    go_wp2
                    go_roundw
                    case rel => exact ⟨k + 1, by omega, by go_num, by rw [HFE.out], HF2, VP, VB, hb⟩
                    case measure => simp [intOf]; omega
              · obtain rfl : k = p.word.size := by omega
                have HN := Lib.hid (HYES.out HF.out)
                go_wp2
                go_ret
                exact ⟨ret_bool HN.out.symm, hb⟩
set_option maxRecDepth 100000 in
set_option maxHeartbeats 1000000 in
theorem ValidPlay_any (b : Brd) (p : Ply) (w : World) (hf : b.fit) (hs : p.word.size ≤ 1048576) (hE : CEnv w) :
    Calls Tryz.prog 48 #[.agg #[.int .i64 b.size, .string b.premium, .string b.cells], .agg #[.int .i64 p.row, .int .i64 p.col, .bool p.down, .string p.word]] w fun e w' => e = .returned (.bool (b.okPlay p)) ∧ Below w.heap.size w w' := by
  obtain ⟨w2, hw2⟩ : ∃ w2, w2 = (w.alloc (.cells #[.int .i64 b.size, .string b.premium, .string b.cells] 25)).alloc (.cells #[.int .i64 p.row, .int .i64 p.col, .bool p.down, .string p.word] 30) := ⟨_, rfl⟩
  have hb : Below w.heap.size w w2 := by rw [hw2]; exact ((Below.refl _ _).alloc (Nat.le_refl _) _).alloc (by simp) _
  have VB : Hid (VarAt w2 w.heap.size 25 [.int .i64 b.size, .string b.premium, .string b.cells]) := by
    rw [hw2]
    exact Lib.hid ((VarAt.new w 25 [.int .i64 b.size, .string b.premium, .string b.cells]).kept ((Below.refl _ _).alloc (Nat.le_refl _) _))
  have VP : Hid (VarAt w2 (w.heap.size + 1) 30 [.int .i64 p.row, .int .i64 p.col, .bool p.down, .string p.word]) := by
    rw [hw2]
    have := VarAt.new (w.alloc (.cells #[.int .i64 b.size, .string b.premium, .string b.cells] 25)) 30 [.int .i64 p.row, .int .i64 p.col, .bool p.down, .string p.word]
    simp only [World.size_alloc] at this
    exact Lib.hid this
  have HE := Lib.hid (hE.kept hb)
  have HW2 := Lib.hid hw2
  clear hw2 hE
  cases h1 : b.ok with
  | false =>
    have HN := Lib.hid (okPlay_bad (p := p) h1)
    go_enter Tryz.func48, Tryz.ntmps48
    go_upto_region 1 with fail
    rw [← HW2.out]
    clear HW2
    have b0 := VB.out.cell (i := 0) rfl
    have b1 := VB.out.cell (i := 1) rfl
    have b2 := VB.out.cell (i := 2) rfl
    go_wp2_with fail
    refine (ValidBoard_any b _ hf).mono ?_
    rintro e w3 ⟨rfl, hd⟩
    rw [h1]
    clear h1
    replace hb := hb.trans (hd.mono hb.size)
    clear hd
    go_wp2
    go_ret
    exact ⟨ret_bool HN.out.symm, hb⟩
  | true =>
    obtain ⟨n, hgd⟩ := Brd.good h1
    go_enter Tryz.func48, Tryz.ntmps48
    go_upto_region 1 with fail
    rw [← HW2.out]
    clear HW2
    have c0 := VP.out.cell (i := 0) rfl
    have c1 := VP.out.cell (i := 1) rfl
    have c2 := VP.out.cell (i := 2) rfl
    have c3 := VP.out.cell (i := 3) rfl
    have b0 := VB.out.cell (i := 0) rfl
    have b1 := VB.out.cell (i := 1) rfl
    have b2 := VB.out.cell (i := 2) rfl
    go_wp2_with fail
    refine (ValidBoard_any b _ hf).mono ?_
    rintro e w3 ⟨rfl, hd⟩
    rw [h1]
    clear h1
    replace hb := hb.trans (hd.mono hb.size)
    replace c0 := cell_kept c0 hd
    replace c1 := cell_kept c1 hd
    replace c2 := cell_kept c2 hd
    replace c3 := cell_kept c3 hd
    replace b0 := cell_kept b0 hd
    replace b1 := cell_kept b1 hd
    replace b2 := cell_kept b2 hd
    replace HE := Lib.hid (HE.out.kept hd)
    clear hd
    go_wp2_with fail
    refine (validOn_any b p n _ hgd hs HE.out).mono ?_
    rintro e w4 ⟨rfl, hd⟩
    replace hb := hb.trans (hd.mono hb.size)
    clear hd
    go_wp2
    go_ret
    exact ⟨rfl, hb⟩
end Go.Proofs.YtjdcdhhbgijaoaaGreatDoor
