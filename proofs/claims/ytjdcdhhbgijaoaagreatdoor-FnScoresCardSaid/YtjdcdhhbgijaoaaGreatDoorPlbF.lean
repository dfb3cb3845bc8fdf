/- Contracts: the program's placed words and the squares of a play. Go's tables of unicode an · Contracts: the program's new squares of a play. For valid plays on valid boards. · Contrac · Contract: the program's sequence of letters in a direction. For valid boards and a square  -/
import Derived.Test.YtjdcdhhbgijaoaaGreatDoorPlaP
import Derived.Test.YtjdcdhhbgijaoaaGreatDoorBrI
import Derived.Test.YtjdcdhhbgijaoaaGreatDoorPlaD
import Derived.Test.YtjdcdhhbgijaoaaGreatDoorVar
namespace Go.Proofs.YtjdcdhhbgijaoaaGreatDoor
open Go.ChangeShapes Go.WideShapes Go.ChangeAt Go.RowKit Go.Sort

/-- Go's tables -/
def CEnv (w : World) : Prop := Lib.CaseVar 1 Lib.caseA w ∧ Lib.Utf8Tabs 3 4 w
theorem CEnv.kept {w w' : World} (h : CEnv w) (hb : Below w.heap.size w w') : CEnv w' :=
  ⟨Lib.CaseVar_below h.1 hb, fun c hc => cell_kept (h.2.1 c hc) hb, fun i hi => ⟨cell_kept (h.2.2 i hi).1 hb, cell_kept (h.2.2 i hi).2 hb⟩⟩
theorem enc_len4 (r : Int) : (Lib.encodeRune r).length ≤ 4 := by
  unfold Lib.encodeRune Lib.encodeRuneZ
  rw [List.length_map]
  split
  · simp
  · split
    · simp
    · split
      · simp
      · split <;> simp
theorem low_len : ∀ (k : Nat) (l : List UInt8), l.length ≤ k → (Lib.mapD Lib.toLowerU l).length ≤ 4 * l.length
  | k, [], _ => by simp [Lib.mapD, Lib.mapGoD]
  | 0, b :: t, h => by simp at h
  | k + 1, b :: t, hk => by
    have hne : (b :: t : List UInt8) ≠ [] := by simp
    have hw1 := Lib.decodeL_width (b :: t)
    have hw2 := Lib.decodeL_le (b :: t) hne
    have hr := (Lib.toLowerU_range (Lib.decodeL (b :: t)).1 (Lib.decodeL_rune _)).1
    have hst := Lib.mapD_step Lib.toLowerU (b :: t) hne
    rw [if_pos hr] at hst
    rw [hst, List.length_append]
    have h1 := enc_len4 (Lib.toLowerU (Lib.decodeL (b :: t)).1)
    have hd : ((b :: t).drop (Lib.decodeL (b :: t)).2).length = (b :: t).length - (Lib.decodeL (b :: t)).2 := by simp
    have hlen : (b :: t).length ≤ k + 1 := hk
    have := low_len k ((b :: t).drop (Lib.decodeL (b :: t)).2) (by omega)
    omega
set_option maxHeartbeats 1000000 in
theorem isPlaced_any (s : ByteArray) (w : World) (hs : s.size ≤ 1048576) (hE : CEnv w) : Calls Tryz.prog 216 #[.string s] w fun e w' => e = .returned (.bool (placedL s.data.toList)) ∧ Below w.heap.size w w' := by
  have hl : s.data.toList.length = s.size := by simp
  have HLW : Hid (∀ W, CEnv W → Calls Tryz.prog 213 #[.string s] W fun e w' => e = .returned (.string (mkB (Lib.toLowerD s.data.toList))) ∧ Below W.heap.size W w') := Lib.hid (fun W h => Tryz.strings_ToLower_any s W (by omega) h.1 h.2)
  have HIW : Hid (∀ W, Calls Tryz.prog 235 #[.string (mkB (Lib.toLowerD s.data.toList))] W fun e w' => e = .returned (.bool (wordL (Lib.toLowerD s.data.toList))) ∧ Below W.heap.size W w') := Lib.hid (fun W => by
    have := IsWord_any (mkB (Lib.toLowerD s.data.toList)) W (by
      rw [mkB_size]
      have := low_len s.data.toList.length s.data.toList (Nat.le_refl _)
      unfold Lib.toLowerD
      omega)
    rwa [mkB_data] at this)
  have HP := Lib.hid (placed_eq s.data.toList)
  have HSZ : Hid ((mkB (Lib.toLowerD s.data.toList)).size = (Lib.toLowerD s.data.toList).length) := Lib.hid (mkB_size _)
  have hsb : (mkB (Lib.toLowerD s.data.toList)).size ≤ 9223372036854775807 := by
    rw [mkB_size]
    have := low_len s.data.toList.length s.data.toList (Nat.le_refl _)
    unfold Lib.toLowerD
    omega
  have HL := Lib.hid hl
  clear hl
  have HE := Lib.hid hE
  clear hE
  have hb : Below w.heap.size w w := Below.refl _ _
  cases hw : wordL (Lib.toLowerD s.data.toList) with
  | false =>
    have HN : Hid (placedL s.data.toList = false) := Lib.hid (by rw [← HP.out, hw]; rfl)
    go_enter Tryz.func216, Tryz.ntmps216
    go_wp2_with fail
    refine (HLW.out _ HE.out).mono ?_
    rintro e w1 ⟨rfl, hd⟩
    replace hb := hb.trans (hd.mono hb.size)
    replace HE := Lib.hid (HE.out.kept hd)
    clear hd
    go_wp2_with fail
    refine (HIW.out _).mono ?_
    rintro e w2 ⟨rfl, hd⟩
    rw [hw]
    clear hw
    replace hb := hb.trans (hd.mono hb.size)
    replace HE := Lib.hid (HE.out.kept hd)
    clear hd
    go_wp2
    go_ret
    exact ⟨ret_bool HN.out.symm, hb⟩
  | true =>
    have HN : Hid (placedL s.data.toList = decide ((mkB (Lib.toLowerD s.data.toList)).size = s.size)) := Lib.hid (by rw [← HP.out, hw, HSZ.out, HL.out, Bool.true_and])
    have HEQ : Hid (∀ t : ByteArray, decide (t.size = s.size) = ((s.size : Int) == (t.size : Int))) := Lib.hid (fun t => by
      rw [Bool.eq_iff_iff, decide_eq_true_iff, beq_iff_eq]; omega)
    go_enter Tryz.func216, Tryz.ntmps216
    go_wp2_with fail
    refine (HLW.out _ HE.out).mono ?_
    rintro e w1 ⟨rfl, hd⟩
    replace hb := hb.trans (hd.mono hb.size)
    replace HE := Lib.hid (HE.out.kept hd)
    clear hd
    go_wp2_with fail
    refine (HIW.out _).mono ?_
    rintro e w2 ⟨rfl, hd⟩
    rw [hw]
    clear hw
    replace hb := hb.trans (hd.mono hb.size)
    replace HE := Lib.hid (HE.out.kept hd)
    clear hd
    go_wp2_with fail
    refine (HLW.out _ HE.out).mono ?_
    rintro e w3 ⟨rfl, hd⟩
    replace hb := hb.trans (hd.mono hb.size)
    replace HE := Lib.hid (HE.out.kept hd)
    clear hd
    generalize mkB (Lib.toLowerD s.data.toList) = t at *
    go_wp2
    go_ret
    exact ⟨ret_bool (by rw [HN.out, HEQ.out]), hb⟩
theorem isMain_any (s : ByteArray) (w : World) (hs : s.size ≤ 1048576) (hE : CEnv w) : Calls Tryz.prog 137 #[.string s] w fun e w' => e = .returned (.bool (mainL s.data.toList)) ∧ Below w.heap.size w w' := by
  have hl : s.data.toList.length = s.size := by simp
  by_cases h2 : 2 ≤ s.size
  · have HN : Hid (mainL s.data.toList = placedL s.data.toList) := Lib.hid (by unfold mainL; rw [hl, decide_eq_true h2]; rfl)
    clear hl
    go_enter Tryz.func137, Tryz.ntmps137
    go_wp2_with fail
    refine (isPlaced_any s _ hs hE).mono ?_
    rintro e w1 ⟨rfl, hd⟩
    go_wp2
    go_ret
    exact ⟨ret_bool HN.out.symm, hd⟩
  · have HN : Hid (mainL s.data.toList = false) := Lib.hid (by unfold mainL; rw [hl, decide_eq_false h2]; rfl)
    clear hl
    go_enter Tryz.func137, Tryz.ntmps137
    go_wp2
    go_ret
    exact ⟨ret_bool HN.out.symm, Below.refl _ _⟩
/-! ### The squares of a play -/
def Ply.sr (p : Ply) (k : Int) : Int := if p.down then p.row + k else p.row
def Ply.sc (p : Ply) (k : Int) : Int := if p.down then p.col else p.col + k
theorem Brd.Good.sq {b : Brd} {n : Nat} (h : b.Good n) (p : Ply) (k : Int) : b.cell (p.sr k) (p.sc k) = b.view p p.r (p.c + k) := by
  rw [h.view]
  unfold Ply.sr Ply.sc Ply.r Ply.c
  cases p.down <;> rfl
set_option maxRecDepth 100000 in
set_option maxHeartbeats 2000000 in
theorem square_any (p : Ply) (k : Int) (w : World) (hk : -100 ≤ k ∧ k ≤ 100) (hr : -100 ≤ p.row ∧ p.row ≤ 100) (hc : -100 ≤ p.col ∧ p.col ≤ 100) :
    Calls Tryz.prog 177 #[.agg #[.int .i64 p.row, .int .i64 p.col, .bool p.down, .string p.word], .int .i64 k] w fun e w' => e = .returned (.agg #[.int .i64 (p.sr k), .int .i64 (p.sc k)]) ∧ Below w.heap.size w w' := by
  obtain ⟨r, c, d, s⟩ := p
  obtain ⟨hk1, hk2⟩ := hk
  obtain ⟨hr1, hr2⟩ := hr
  obtain ⟨hc1, hc2⟩ := hc
  simp only at hr1 hr2 hc1 hc2
  obtain ⟨w2, hw2⟩ : ∃ w2, w2 = (w.alloc (.cells #[.int .i64 r, .int .i64 c, .bool d, .string s] 30)).alloc (.cells #[.int .i64 0, .int .i64 0] 73) := ⟨_, rfl⟩
  have hb : Below w.heap.size w w2 := by rw [hw2]; exact ((Below.refl _ _).alloc (Nat.le_refl _) _).alloc (by simp) _
  have VP : Hid (VarAt w2 w.heap.size 30 [.int .i64 r, .int .i64 c, .bool d, .string s]) := by
    rw [hw2]
    exact Lib.hid ((VarAt.new w 30 [.int .i64 r, .int .i64 c, .bool d, .string s]).kept ((Below.refl _ _).alloc (Nat.le_refl _) _))
  have V0 : Hid (VarAt w2 (w.heap.size + 1) 73 [.int .i64 0, .int .i64 0]) := by
    rw [hw2]
    have := VarAt.new (w.alloc (.cells #[.int .i64 r, .int .i64 c, .bool d, .string s] 30)) 73 [.int .i64 0, .int .i64 0]
    simp only [World.size_alloc] at this
    exact Lib.hid this
  have HW2 := Lib.hid hw2
  clear hw2
  cases d with
  | true =>
    have HA : Hid (∀ W, Calls Tryz.prog 344 #[.agg #[], .int .i64 r, .int .i64 c, .int .i64 k] W fun e w' => e = .returned (.agg #[.int .i64 (r + k), .int .i64 c]) ∧ Below W.heap.size W w') := Lib.hid (fun W => dat_any r c k W (by omega))
    go_enter Tryz.func177, Tryz.ntmps177
    go_upto_region 1 with fail
    rw [← HW2.out]
    clear HW2
    have hd : Below w2.heap.size w2 w2.drew := (Below.refl _ _).drew
    replace hb := hb.trans (hd.mono hb.size)
    replace VP := Lib.hid (VP.out.kept hd)
    replace V0 := Lib.hid (V0.out.kept hd)
    clear hd
    have q0 := V0.out.cell (i := 0) rfl
    have q1 := V0.out.cell (i := 1) rfl
    have p0 := V0.out.free 0
    have p1 := V0.out.free 1
    go_region_held3 (fun w' => w'.cell? ⟨w.heap.size, 0, none⟩ = some (.int .i64 r) ∧ w'.cell? ⟨w.heap.size, 1, none⟩ = some (.int .i64 c) ∧ w'.cell? ⟨w.heap.size, 2, none⟩ = some (.bool true))
      (first | exact ⟨VP.out.cell (i := 0) rfl, VP.out.cell (i := 1) rfl, VP.out.cell (i := 2) rfl⟩ | exact ⟨set2_cell (by omega) (VP.out.cell (i := 0) rfl), set2_cell (by omega) (VP.out.cell (i := 1) rfl), set2_cell (by omega) (VP.out.cell (i := 2) rfl)⟩)
      ((first | (go_at_call 242; refine (directionOf_any true _).mono ?_; rintro e wq ⟨rfl, rfl⟩; rw [show dirV true = .iface 255 (.agg #[]) from rfl]) | (go_at_call 344; refine (HA.out _).mono ?_; rintro e wq ⟨rfl, hd⟩; replace VP := Lib.hid (VP.out.kept hd); replace V0 := Lib.hid (V0.out.kept hd); replace hb := hb.trans (hd.mono hb.size); clear hd q0 q1 p0 p1; have q0 := V0.out.cell (i := 0) rfl; have q1 := V0.out.cell (i := 1) rfl; have p0 := V0.out.free 0; have p1 := V0.out.free 1)))
    all_goals
      obtain ⟨o0, k0⟩ := V0.out.set 0 (.int .i64 (r + k))
      obtain ⟨o1, k1⟩ := o0.set 1 (.int .i64 c)
      have GG := grownBy_trans k0 k1
      have hb9 := hb.grown GG hb.size (fun q h => by cases h; omega)
      have e0 := o1.cell (i := 0) (v := .int .i64 (r + k)) rfl
      have e1 := o1.cell (i := 1) (v := .int .i64 c) rfl
      clear o0 o1 k0 k1 GG
      go_wp2
      refine bodyPost_ret (v := .agg #[.int .i64 (r + k), .int .i64 c]) (by simp [results, Tryz.results177, go_sem, e0, e1]) rfl ?_
      exact ⟨rfl, hb9⟩
  | false =>
    have HA : Hid (∀ W, Calls Tryz.prog 346 #[.agg #[], .int .i64 r, .int .i64 c, .int .i64 k] W fun e w' => e = .returned (.agg #[.int .i64 r, .int .i64 (c + k)]) ∧ Below W.heap.size W w') := Lib.hid (fun W => rat_any r c k W (by omega))
    go_enter Tryz.func177, Tryz.ntmps177
    go_upto_region 1 with fail
    rw [← HW2.out]
    clear HW2
    have hd : Below w2.heap.size w2 w2.drew := (Below.refl _ _).drew
    replace hb := hb.trans (hd.mono hb.size)
    replace VP := Lib.hid (VP.out.kept hd)
    replace V0 := Lib.hid (V0.out.kept hd)
    clear hd
    have q0 := V0.out.cell (i := 0) rfl
    have q1 := V0.out.cell (i := 1) rfl
    have p0 := V0.out.free 0
    have p1 := V0.out.free 1
    go_region_held3 (fun w' => w'.cell? ⟨w.heap.size, 0, none⟩ = some (.int .i64 r) ∧ w'.cell? ⟨w.heap.size, 1, none⟩ = some (.int .i64 c) ∧ w'.cell? ⟨w.heap.size, 2, none⟩ = some (.bool false))
      (first | exact ⟨VP.out.cell (i := 0) rfl, VP.out.cell (i := 1) rfl, VP.out.cell (i := 2) rfl⟩ | exact ⟨set2_cell (by omega) (VP.out.cell (i := 0) rfl), set2_cell (by omega) (VP.out.cell (i := 1) rfl), set2_cell (by omega) (VP.out.cell (i := 2) rfl)⟩)
      ((first | (go_at_call 242; refine (directionOf_any false _).mono ?_; rintro e wq ⟨rfl, rfl⟩; rw [show dirV false = .iface 256 (.agg #[]) from rfl]) | (go_at_call 346; refine (HA.out _).mono ?_; rintro e wq ⟨rfl, hd⟩; replace VP := Lib.hid (VP.out.kept hd); replace V0 := Lib.hid (V0.out.kept hd); replace hb := hb.trans (hd.mono hb.size); clear hd q0 q1 p0 p1; have q0 := V0.out.cell (i := 0) rfl; have q1 := V0.out.cell (i := 1) rfl; have p0 := V0.out.free 0; have p1 := V0.out.free 1)))
    all_goals
      obtain ⟨o0, k0⟩ := V0.out.set 0 (.int .i64 r)
      obtain ⟨o1, k1⟩ := o0.set 1 (.int .i64 (c + k))
      have GG := grownBy_trans k0 k1
      have hb9 := hb.grown GG hb.size (fun q h => by cases h; omega)
      have e0 := o1.cell (i := 0) (v := .int .i64 r) rfl
      have e1 := o1.cell (i := 1) (v := .int .i64 (c + k)) rfl
      clear o0 o1 k0 k1 GG
      go_wp2
      refine bodyPost_ret (v := .agg #[.int .i64 r, .int .i64 (c + k)]) (by simp [results, Tryz.results177, go_sem, e0, e1]) rfl ?_
      exact ⟨rfl, hb9⟩
end Go.Proofs.YtjdcdhhbgijaoaaGreatDoor

namespace Go.Proofs.YtjdcdhhbgijaoaaGreatDoor
open Go.ChangeShapes Go.WideShapes Go.ChangeAt Go.RowKit Go.Sort

/-! ### Plain -/
theorem Brd.Good.inP {b : Brd} {n : Nat} (_h : b.Good n) (p : Ply) : (withinB p.r 0 (b.size - 1) && withinB p.c 0 (b.size - 1)) = b.inB p.row p.col := by
  unfold Brd.inB Ply.r Ply.c
  cases p.down
  · rfl
  · exact Bool.and_comm _ _
theorem ok_fits {b : Brd} {p : Ply} {n : Nat} (h : b.Good n) (h2 : mainL p.word.data.toList = true) : b.okPlay p = fitsF (b.view p) b.size p.r p.c p.word.data.toList := by
  unfold Brd.okPlay Brd.fits
  rw [h.ok, h2]
  rfl
theorem Brd.Good.last {b : Brd} {n : Nat} (h : b.Good n) {p : Ply} (hi : b.inB p.row p.col = true) {k : Nat} (hk : 2 ≤ k) : b.inB (p.sr ((k : Int) - 1)) (p.sc ((k : Int) - 1)) = true ↔ p.c + k ≤ n := by
  have h1 := h.inB.1 hi
  rw [h.inB]
  unfold Ply.sr Ply.sc Ply.c
  cases p.down <;> simp only [if_true, if_false, Bool.false_eq_true] <;> omega
theorem Ply.c_rng {b : Brd} {n : Nat} (h : b.Good n) {p : Ply} (hi : b.inB p.row p.col = true) : 0 ≤ p.r ∧ p.r < n ∧ 0 ≤ p.c ∧ p.c < n := by
  have h1 := h.inB.1 hi
  unfold Ply.r Ply.c
  cases p.down <;> simp only [if_true, if_false, Bool.false_eq_true] <;> omega

set_option maxRecDepth 100000 in
set_option maxHeartbeats 4000000 in
theorem validOn_any (b : Brd) (p : Ply) (n : Nat) (w : World) (hb0 : b.Good n) (hs : p.word.size ≤ 1048576) (hE : CEnv w) :
    Calls Tryz.prog 125 #[.agg #[.int .i64 p.row, .int .i64 p.col, .bool p.down, .string p.word], .agg #[.int .i64 b.size, .string b.premium, .string b.cells]] w fun e w' => e = .returned (.bool (b.okPlay p)) ∧ Below w.heap.size w w' := by
  have hl : p.word.data.toList.length = p.word.size := by simp
  have HLN := Lib.hid hl
  obtain ⟨w2, hw2⟩ : ∃ w2, w2 = (w.alloc (.cells #[.int .i64 p.row, .int .i64 p.col, .bool p.down, .string p.word] 30)).alloc (.cells #[.int .i64 b.size, .string b.premium, .string b.cells] 25) := ⟨_, rfl⟩
  have hb : Below w.heap.size w w2 := by rw [hw2]; exact ((Below.refl _ _).alloc (Nat.le_refl _) _).alloc (by simp) _
  have VP : Hid (VarAt w2 w.heap.size 30 [.int .i64 p.row, .int .i64 p.col, .bool p.down, .string p.word]) := by
    rw [hw2]
    exact Lib.hid ((VarAt.new w 30 [.int .i64 p.row, .int .i64 p.col, .bool p.down, .string p.word]).kept ((Below.refl _ _).alloc (Nat.le_refl _) _))
  have VB : Hid (VarAt w2 (w.heap.size + 1) 25 [.int .i64 b.size, .string b.premium, .string b.cells]) := by
    rw [hw2]
    have := VarAt.new (w.alloc (.cells #[.int .i64 p.row, .int .i64 p.col, .bool p.down, .string p.word] 30)) 25 [.int .i64 b.size, .string b.premium, .string b.cells]
    simp only [World.size_alloc] at this
    exact Lib.hid this
  have HE := Lib.hid (hE.kept hb)
  have HW2 := Lib.hid hw2
  have HMA : Hid (∀ W, CEnv W → Calls Tryz.prog 137 #[.string p.word] W fun e w' => e = .returned (.bool (mainL p.word.data.toList)) ∧ Below W.heap.size W w') := Lib.hid (fun W h => isMain_any p.word W hs h)
  clear hw2 hE hl
  cases hm : mainL p.word.data.toList with
  | false =>
    have HN : Hid (b.okPlay p = false) := Lib.hid (okPlay_word hm)
    go_enter Tryz.func125, Tryz.ntmps125
    go_upto_region 1 with fail
    rw [← HW2.out]
    clear HW2
    have c0 := VP.out.cell (i := 0) rfl
    have c1 := VP.out.cell (i := 1) rfl
    have c2 := VP.out.cell (i := 2) rfl
    have c3 := VP.out.cell (i := 3) rfl
    have b0 := VB.out.cell (i := 0) rfl
    have b1 := VB.out.cell (i := 1) rfl
    have b2 := VB.out.cell (i := 2) rfl
    go_wp2_with fail
    refine (HMA.out _ HE.out).mono ?_
    rintro e w3 ⟨rfl, hd⟩
    rw [hm]
    clear hm
    replace hb := hb.trans (hd.mono hb.size)
    replace c0 := cell_kept c0 hd
    replace c1 := cell_kept c1 hd
    replace c2 := cell_kept c2 hd
    replace c3 := cell_kept c3 hd
    replace b0 := cell_kept b0 hd
    replace b1 := cell_kept b1 hd
    replace b2 := cell_kept b2 hd
    replace VP := Lib.hid (VP.out.kept hd)
    replace VB := Lib.hid (VB.out.kept hd)
    clear hd
    go_wp2
    go_ret
    exact ⟨ret_bool HN.out.symm, hb⟩
  | true =>
    have HOK := Lib.hid (ok_fits hb0 hm)
    have m2 := (mainL_iff.1 hm).1
    have m12 := main_size hm
    rw [HLN.out] at m2
    cases hi : b.inB p.row p.col with
    | false =>
      have HN : Hid (b.okPlay p = false) := Lib.hid (by rw [HOK.out]; exact fits_in ((hb0.inP p).trans hi))
      go_enter Tryz.func125, Tryz.ntmps125
      go_upto_region 1 with fail
      rw [← HW2.out]
      clear HW2
      have c0 := VP.out.cell (i := 0) rfl
      have c1 := VP.out.cell (i := 1) rfl
      have c2 := VP.out.cell (i := 2) rfl
      have c3 := VP.out.cell (i := 3) rfl
      have b0 := VB.out.cell (i := 0) rfl
      have b1 := VB.out.cell (i := 1) rfl
      have b2 := VB.out.cell (i := 2) rfl
      go_wp2_with fail
      refine (HMA.out _ HE.out).mono ?_
      rintro e w3 ⟨rfl, hd⟩
      rw [hm]
      clear hm
      replace hb := hb.trans (hd.mono hb.size)
      replace c0 := cell_kept c0 hd
      replace c1 := cell_kept c1 hd
      replace c2 := cell_kept c2 hd
      replace c3 := cell_kept c3 hd
      replace b0 := cell_kept b0 hd
      replace b1 := cell_kept b1 hd
      replace b2 := cell_kept b2 hd
      replace VP := Lib.hid (VP.out.kept hd)
      replace VB := Lib.hid (VB.out.kept hd)
      clear hd
      go_wp2_with fail
      refine (inside_any b n p.row p.col _ hb0).mono ?_
      rintro e w4 ⟨rfl, hd⟩
      rw [hi]
      clear hi
      replace hb := hb.trans (hd.mono hb.size)
      clear hd
      go_wp2
      go_ret
      exact ⟨ret_bool HN.out.symm, hb⟩
    | true =>
      have hI0 := (hb0.inP p).trans hi
      have hbx := hb0.inB.1 hi
      have hn15 := hb0.hi
      have HCR := Lib.hid (Ply.c_rng hb0 hi)
      have hlast := hb0.last hi m2
      obtain ⟨sr, hsr⟩ : ∃ sr : Int → Int, ∀ k, sr k = p.sr k := ⟨_, fun _ => rfl⟩
      obtain ⟨sc, hsc⟩ : ∃ sc : Int → Int, ∀ k, sc k = p.sc k := ⟨_, fun _ => rfl⟩
      obtain ⟨f, hf⟩ : ∃ f : Int → UInt8, ∀ k, f k = b.view p p.r (p.c + k) := ⟨_, fun _ => rfl⟩
      have HSQ : Hid (∀ k W, -100 ≤ k ∧ k ≤ 100 → Calls Tryz.prog 177 #[.agg #[.int .i64 p.row, .int .i64 p.col, .bool p.down, .string p.word], .int .i64 k] W fun e w' => e = .returned (.agg #[.int .i64 (sr k), .int .i64 (sc k)]) ∧ Below W.heap.size W w') := Lib.hid (fun k W hk => by rw [hsr, hsc]; exact square_any p k W hk (by omega) (by omega))
      have HON : Hid (∀ k bv W, fullC (f k) = bv → Calls Tryz.prog 191 #[.agg #[.int .i64 b.size, .string b.premium, .string b.cells], .agg #[.int .i64 (sr k), .int .i64 (sc k)]] W fun e w' => e = .returned (.bool bv) ∧ Below W.heap.size W w') := Lib.hid (fun k bv W e => by rw [← e, hf, ← hb0.sq, hsr, hsc]; exact on_any b n _ _ W hb0)
      have HCE : Hid (∀ k W, Calls Tryz.prog 129 #[.agg #[.int .i64 b.size, .string b.premium, .string b.cells], .int .i64 (sr k), .int .i64 (sc k)] W fun e w' => e = .returned (.int .u8 ((f k).toNat : Int)) ∧ Below W.heap.size W w') := Lib.hid (fun k W => by rw [hf, ← hb0.sq, hsr, hsc]; exact cell_any b n _ _ W hb0)
      have HINS : Hid (∀ bv W, b.inB (sr ((p.word.size : Int) - 1)) (sc ((p.word.size : Int) - 1)) = bv → Calls Tryz.prog 206 #[.agg #[.int .i64 b.size, .string b.premium, .string b.cells], .int .i64 (sr ((p.word.size : Int) - 1)), .int .i64 (sc ((p.word.size : Int) - 1))] W fun e w' => e = .returned (.bool bv) ∧ Below W.heap.size W w') := Lib.hid (fun bv W e => by rw [← e]; exact inside_any b n _ _ W hb0)
      have HSZ := Lib.hid hb0.size
      rw [← hsr, ← hsc] at hlast
      have HV : Hid (∀ k : Int, b.view p p.r (p.c + k) = f k) := Lib.hid (fun k => (hf k).symm)
      have HIA : Hid (∀ W, Calls Tryz.prog 206 #[.agg #[.int .i64 b.size, .string b.premium, .string b.cells], .int .i64 p.row, .int .i64 p.col] W fun e w' => e = .returned (.bool true) ∧ Below W.heap.size W w') := Lib.hid (fun W => by have := inside_any b n p.row p.col W hb0; rwa [hi] at this)
      have HI0 := Lib.hid hI0
      clear hb0 hi hI0 hbx hsr hsc hf
      go_enter Tryz.func125, Tryz.ntmps125
      go_upto_region 1 with fail
      rw [← HW2.out]
      clear HW2
      have c0 := VP.out.cell (i := 0) rfl
      have c1 := VP.out.cell (i := 1) rfl
      have c2 := VP.out.cell (i := 2) rfl
      have c3 := VP.out.cell (i := 3) rfl
      have b0 := VB.out.cell (i := 0) rfl
      have b1 := VB.out.cell (i := 1) rfl
      have b2 := VB.out.cell (i := 2) rfl
      go_wp2_with fail
      refine (HMA.out _ HE.out).mono ?_
      rintro e w3 ⟨rfl, hd⟩
      rw [hm]
      clear hm
      replace hb := hb.trans (hd.mono hb.size)
      replace c0 := cell_kept c0 hd
      replace c1 := cell_kept c1 hd
      replace c2 := cell_kept c2 hd
      replace c3 := cell_kept c3 hd
      replace b0 := cell_kept b0 hd
      replace b1 := cell_kept b1 hd
      replace b2 := cell_kept b2 hd
      replace VP := Lib.hid (VP.out.kept hd)
      replace VB := Lib.hid (VB.out.kept hd)
      clear hd
      go_wp2_with fail
      refine (HIA.out _).mono ?_
      rintro e w4 ⟨rfl, hd⟩
      clear HIA
      replace hb := hb.trans (hd.mono hb.size)
      replace c0 := cell_kept c0 hd
      replace c1 := cell_kept c1 hd
      replace c2 := cell_kept c2 hd
      replace c3 := cell_kept c3 hd
      replace b0 := cell_kept b0 hd
      replace b1 := cell_kept b1 hd
      replace b2 := cell_kept b2 hd
      replace VP := Lib.hid (VP.out.kept hd)
      replace VB := Lib.hid (VB.out.kept hd)
      clear hd
      go_wp2_with fail
      refine (HSQ.out _ _ (by omega)).mono ?_
      rintro e w5 ⟨rfl, hd⟩
      replace hb := hb.trans (hd.mono hb.size)
      replace c0 := cell_kept c0 hd
      replace c1 := cell_kept c1 hd
      replace c2 := cell_kept c2 hd
      replace c3 := cell_kept c3 hd
      replace b0 := cell_kept b0 hd
      replace b1 := cell_kept b1 hd
      replace b2 := cell_kept b2 hd
      replace VP := Lib.hid (VP.out.kept hd)
      replace VB := Lib.hid (VB.out.kept hd)
      clear hd
      have VL := Lib.hid (VarAt.new w5 73 [.int .i64 (sr ((p.word.size : Int) - 1)), .int .i64 (sc ((p.word.size : Int) - 1))])
      have hd : Below w5.heap.size w5 (w5.alloc (.cells #[.int .i64 (sr ((p.word.size : Int) - 1)), .int .i64 (sc ((p.word.size : Int) - 1))] 73)) := (Below.refl _ _).alloc (Nat.le_refl _) _
      replace hb := hb.trans (hd.mono hb.size)
      replace c0 := cell_kept c0 hd
      replace c1 := cell_kept c1 hd
      replace c2 := cell_kept c2 hd
      replace c3 := cell_kept c3 hd
      replace b0 := cell_kept b0 hd
      replace b1 := cell_kept b1 hd
      replace b2 := cell_kept b2 hd
      replace VP := Lib.hid (VP.out.kept hd)
      replace VB := Lib.hid (VB.out.kept hd)
      clear hd
      have l0 := VL.out.cell (i := 0) rfl
      have l1 := VL.out.cell (i := 1) rfl
      cases h0 : b.inB (sr ((p.word.size : Int) - 1)) (sc ((p.word.size : Int) - 1)) with
      | false =>
        have HN : Hid (b.okPlay p = false) := Lib.hid (by
          rw [HOK.out]
          refine fits_long ?_
          rw [HLN.out, HSZ.out]
          intro hle
          rw [hlast.2 hle] at h0
          cases h0)
        have H0 := Lib.hid h0
        have H1 : Hid True := Lib.hid trivial
        have H2 : Hid True := Lib.hid trivial
        clear h0
        go_upto_region 4 with fail
        generalize w5.alloc (.cells #[.int .i64 (sr ((p.word.size : Int) - 1)), .int .i64 (sc ((p.word.size : Int) - 1))] 73) = wL at *
        go_upto_region 4 with fail
        have a0 := cell_regrown b0
        have a1 := cell_regrown b1
        have a2 := cell_regrown b2
        have a3 := cell_regrown c0
        have a4 := cell_regrown c1
        have a5 := cell_regrown c2
        have a6 := cell_regrown c3
        have a7 := cell_regrown l0
        have a8 := cell_regrown l1
        refine wp_region_quiet_below (by kernel_rfl) (by kernel_rfl) ?_
        repeat (go_big_quiet_step ((first
          | (go_at_call 206; exact Calls.regrown_of (HINS.out _ _ H0.out))
          | (go_at_call 177; exact Calls.regrown_of (HSQ.out _ _ (by omega)))
          | (go_at_call 191; exact Calls.regrown_of (HON.out _ _ _ (by first | exact H1.out | exact H2.out))))))
        refine wpQuiet_nil ?_
        intro wx hw'
        obtain ⟨⟨dq, oq⟩, hw''⟩ := hw'
        have hdx := below_regrown wL dq oq
        rw [← hw''] at hdx
        clear hw'' a0 a1 a2 a3 a4 a5 a6 a7 a8
        go_wp2
        go_ret
        exact ⟨ret_bool HN.out.symm, hb.trans (hdx.mono hb.size)⟩
      | true =>
        have hlen := hlast.1 h0
        have H0 := Lib.hid h0
        clear h0
        cases h1 : fullC (f (-1)) with
        | true =>
          have HN : Hid (b.okPlay p = false) := Lib.hid (by
            rw [HOK.out]
            refine fits_before ?_
            rw [show p.c - 1 = p.c + -1 from rfl, HV.out]
            exact h1)
          have H1 := Lib.hid h1
          have H2 : Hid True := Lib.hid trivial
          clear h1
          go_upto_region 4 with fail
          generalize w5.alloc (.cells #[.int .i64 (sr ((p.word.size : Int) - 1)), .int .i64 (sc ((p.word.size : Int) - 1))] 73) = wL at *
          go_upto_region 4 with fail
          have a0 := cell_regrown b0
          have a1 := cell_regrown b1
          have a2 := cell_regrown b2
          have a3 := cell_regrown c0
          have a4 := cell_regrown c1
          have a5 := cell_regrown c2
          have a6 := cell_regrown c3
          have a7 := cell_regrown l0
          have a8 := cell_regrown l1
          refine wp_region_quiet_below (by kernel_rfl) (by kernel_rfl) ?_
          repeat (go_big_quiet_step ((first
            | (go_at_call 206; exact Calls.regrown_of (HINS.out _ _ H0.out))
            | (go_at_call 177; exact Calls.regrown_of (HSQ.out _ _ (by omega)))
            | (go_at_call 191; exact Calls.regrown_of (HON.out _ _ _ (by first | exact H1.out | exact H2.out))))))
          refine wpQuiet_nil ?_
          intro wx hw'
          obtain ⟨⟨dq, oq⟩, hw''⟩ := hw'
          have hdx := below_regrown wL dq oq
          rw [← hw''] at hdx
          clear hw'' a0 a1 a2 a3 a4 a5 a6 a7 a8
          go_wp2
          go_ret
          exact ⟨ret_bool HN.out.symm, hb.trans (hdx.mono hb.size)⟩
        | false =>
          cases h2 : fullC (f (p.word.size : Int)) with
          | true =>
            have HN : Hid (b.okPlay p = false) := Lib.hid (by
              rw [HOK.out]
              refine fits_behind ?_
              rw [HLN.out, HV.out]
              exact h2)
            have H1 := Lib.hid h1
            have H2 := Lib.hid h2
            clear h1 h2
            go_upto_region 4 with fail
            generalize w5.alloc (.cells #[.int .i64 (sr ((p.word.size : Int) - 1)), .int .i64 (sc ((p.word.size : Int) - 1))] 73) = wL at *
            go_upto_region 4 with fail
            have a0 := cell_regrown b0
            have a1 := cell_regrown b1
            have a2 := cell_regrown b2
            have a3 := cell_regrown c0
            have a4 := cell_regrown c1
            have a5 := cell_regrown c2
            have a6 := cell_regrown c3
            have a7 := cell_regrown l0
            have a8 := cell_regrown l1
            refine wp_region_quiet_below (by kernel_rfl) (by kernel_rfl) ?_
            repeat (go_big_quiet_step ((first
              | (go_at_call 206; exact Calls.regrown_of (HINS.out _ _ H0.out))
              | (go_at_call 177; exact Calls.regrown_of (HSQ.out _ _ (by omega)))
              | (go_at_call 191; exact Calls.regrown_of (HON.out _ _ _ (by first | exact H1.out | exact H2.out))))))
            refine wpQuiet_nil ?_
            intro wx hw'
            obtain ⟨⟨dq, oq⟩, hw''⟩ := hw'
            have hdx := below_regrown wL dq oq
            rw [← hw''] at hdx
            clear hw'' a0 a1 a2 a3 a4 a5 a6 a7 a8
            go_wp2
            go_ret
            exact ⟨ret_bool HN.out.symm, hb.trans (hdx.mono hb.size)⟩
          | false =>
            have HYES : Hid (fitTo (b.view p) p.r p.c p.word.data.toList p.word.size = true → b.okPlay p = freeTo (b.view p) p.r p.c p.word.size) := Lib.hid (fun h => by
              have := fits_yes (F := b.view p) HI0.out (l := p.word.data.toList) (by rw [HLN.out, HSZ.out]; exact hlen) (by rw [show p.c - 1 = p.c + -1 from rfl, HV.out]; exact h1) (by rw [HLN.out, HV.out]; exact h2) (by rw [HLN.out]; exact h)
              rw [HLN.out] at this
              rw [HOK.out]
              exact this)
            have HNOT : Hid (fitTo (b.view p) p.r p.c p.word.data.toList p.word.size = false → b.okPlay p = false) := Lib.hid (fun h => by rw [HOK.out]; exact fits_not (by rw [HLN.out]; exact h))
            have H1 := Lib.hid h1
            have H2 := Lib.hid h2
            clear h1 h2
            go_upto_region 4 with fail
            generalize w5.alloc (.cells #[.int .i64 (sr ((p.word.size : Int) - 1)), .int .i64 (sc ((p.word.size : Int) - 1))] 73) = wL at *
            go_upto_region 4 with fail
            have a0 := cell_regrown b0
            have a1 := cell_regrown b1
            have a2 := cell_regrown b2
            have a3 := cell_regrown c0
            have a4 := cell_regrown c1
            have a5 := cell_regrown c2
            have a6 := cell_regrown c3
            have a7 := cell_regrown l0
            have a8 := cell_regrown l1
            refine wp_region_quiet_below (by kernel_rfl) (by kernel_rfl) ?_
            repeat (go_big_quiet_step ((first
              | (go_at_call 206; exact Calls.regrown_of (HINS.out _ _ H0.out))
              | (go_at_call 177; exact Calls.regrown_of (HSQ.out _ _ (by omega)))
              | (go_at_call 191; exact Calls.regrown_of (HON.out _ _ _ (by first | exact H1.out | exact H2.out))))))
            refine wpQuiet_nil ?_
            intro wx hw'
            obtain ⟨⟨dq, oq⟩, hw''⟩ := hw'
            have hdx := below_regrown wL dq oq
            rw [← hw''] at hdx
            clear hw'' a0 a1 a2 a3 a4 a5 a6 a7 a8
            clear l0 l1 VL c0 c1 c2 c3 b0 b1 b2
            replace hb := hb.trans (hdx.mono hb.size)
            replace VP := Lib.hid (VP.out.kept hdx)
            replace VB := Lib.hid (VB.out.kept hdx)
            clear hdx
            go_wp2_with fail
            go_loopw [6, 7] (fun fv iv wr => ∃ k : Nat, k ≤ p.word.size ∧ iv = .int .i64 k ∧ fv = .bool (freeTo (b.view p) p.r p.c k) ∧ Hid (fitTo (b.view p) p.r p.c p.word.data.toList k = true) ∧ Hid (VarAt wr w.heap.size 30 [.int .i64 p.row, .int .i64 p.col, .bool p.down, .string p.word]) ∧ Hid (VarAt wr (w.heap.size + 1) 25 [.int .i64 b.size, .string b.premium, .string b.cells]) ∧ Below w.heap.size w wr) (fun _ iv _ => p.word.size - (intOf iv).toNat)
            case atStart => exact ⟨0, Nat.zero_le _, rfl, rfl, Lib.hid rfl, VP, VB, hb⟩
            case round =>
              clear VP VB hb
              obtain ⟨k, hk, rfl, rfl, HF, VP, VB, hb⟩ := hrel
              have c0 := VP.out.cell (i := 0) rfl
              have c1 := VP.out.cell (i := 1) rfl
              have c2 := VP.out.cell (i := 2) rfl
              have c3 := VP.out.cell (i := 3) rfl
              have b0 := VB.out.cell (i := 0) rfl
              have b1 := VB.out.cell (i := 1) rfl
              have b2 := VB.out.cell (i := 2) rfl
              by_cases hk2 : k < p.word.size
              · have HFS : Hid (freeTo (b.view p) p.r p.c (k + 1) = (freeTo (b.view p) p.r p.c k || f k == 46)) := Lib.hid (by rw [freeTo_succ, HV.out])
                have HGD := Lib.hid (getD_byt hk2)
                go_wp2_with fail
                refine (HSQ.out k _ (by omega)).mono ?_
                rintro e w6 ⟨rfl, hd⟩
                replace hb := hb.trans (hd.mono hb.size)
                replace c0 := cell_kept c0 hd
                replace c1 := cell_kept c1 hd
                replace c2 := cell_kept c2 hd
                replace c3 := cell_kept c3 hd
                replace b0 := cell_kept b0 hd
                replace b1 := cell_kept b1 hd
                replace b2 := cell_kept b2 hd
                replace VP := Lib.hid (VP.out.kept hd)
                replace VB := Lib.hid (VB.out.kept hd)
                clear hd
                have hd : Below w6.heap.size w6 (w6.alloc (.cells #[.int .i64 (sr k), .int .i64 (sc k)] 73)) := (Below.refl _ _).alloc (Nat.le_refl _) _
                replace hb := hb.trans (hd.mono hb.size)
                replace c0 := cell_kept c0 hd
                replace c1 := cell_kept c1 hd
                replace c2 := cell_kept c2 hd
                replace c3 := cell_kept c3 hd
                replace b0 := cell_kept b0 hd
                replace b1 := cell_kept b1 hd
                replace b2 := cell_kept b2 hd
                replace VP := Lib.hid (VP.out.kept hd)
                replace VB := Lib.hid (VB.out.kept hd)
                clear hd
                go_wp2_with fail
                refine (HCE.out k _).mono ?_
                rintro e w7 ⟨rfl, hd⟩
                replace hb := hb.trans (hd.mono hb.size)
                replace c0 := cell_kept c0 hd
                replace c1 := cell_kept c1 hd
                replace c2 := cell_kept c2 hd
                replace c3 := cell_kept c3 hd
                replace b0 := cell_kept b0 hd
                replace b1 := cell_kept b1 hd
                replace b2 := cell_kept b2 hd
                replace VP := Lib.hid (VP.out.kept hd)
                replace VB := Lib.hid (VB.out.kept hd)
                clear hd
                cases e1 : (((f k).toNat : Int) == 46) with
                | true =>
                  have HF2 : Hid (fitTo (b.view p) p.r p.c p.word.data.toList (k + 1) = true) := Lib.hid (fitTo_succ HF.out (.inl (by rw [HV.out]; exact int_46 e1)))
                  have HFE : Hid (freeTo (b.view p) p.r p.c (k + 1) = true) := Lib.hid (by rw [HFS.out, int_46 e1]; simp)
                  go_wp2
                  go_roundw
                  case rel => exact ⟨k + 1, by omega, by go_num, by rw [HFE.out], HF2, VP, VB, hb⟩
                  case measure => simp [intOf]; omega
                | false =>
                  have HFE : Hid (freeTo (b.view p) p.r p.c (k + 1) = freeTo (b.view p) p.r p.c k) := Lib.hid (by
                    rw [HFS.out, show (f k == 46) = false from beq_eq_false_iff_ne.2 (int_not46 e1), Bool.or_false])
                  cases e2 : (((f k).toNat : Int) != (p.word[k].toNat : Int)) with
                  | true =>
                    have HN : Hid (b.okPlay p = false) := Lib.hid (HNOT.out (fitTo_no hk2 (by rw [HV.out]; exact int_not46 e1) (by rw [HV.out, HGD.out]; exact int_ne e2)))
                    go_wp2
                    go_ret
                    exact ⟨ret_bool HN.out.symm, hb⟩
                  | false =>
                    have HF2 : Hid (fitTo (b.view p) p.r p.c p.word.data.toList (k + 1) = true) := Lib.hid (fitTo_succ HF.out (.inr (by rw [HV.out, HGD.out]; exact int_eq e2)))
                    go_wp2
                    go_roundw
                    case rel => exact ⟨k + 1, by omega, by go_num, by rw [HFE.out], HF2, VP, VB, hb⟩
                    case measure => simp [intOf]; omega
              · obtain rfl : k = p.word.size := by omega
                have HN := Lib.hid (HYES.out HF.out)
                go_wp2
                go_ret
                exact ⟨ret_bool HN.out.symm, hb⟩
set_option maxRecDepth 100000 in
set_option maxHeartbeats 1000000 in
theorem ValidPlay_any (b : Brd) (p : Ply) (w : World) (hf : b.fit) (hs : p.word.size ≤ 1048576) (hE : CEnv w) :
    Calls Tryz.prog 48 #[.agg #[.int .i64 b.size, .string b.premium, .string b.cells], .agg #[.int .i64 p.row, .int .i64 p.col, .bool p.down, .string p.word]] w fun e w' => e = .returned (.bool (b.okPlay p)) ∧ Below w.heap.size w w' := by
  obtain ⟨w2, hw2⟩ : ∃ w2, w2 = (w.alloc (.cells #[.int .i64 b.size, .string b.premium, .string b.cells] 25)).alloc (.cells #[.int .i64 p.row, .int .i64 p.col, .bool p.down, .string p.word] 30) := ⟨_, rfl⟩
  have hb : Below w.heap.size w w2 := by rw [hw2]; exact ((Below.refl _ _).alloc (Nat.le_refl _) _).alloc (by simp) _
  have VB : Hid (VarAt w2 w.heap.size 25 [.int .i64 b.size, .string b.premium, .string b.cells]) := by
    rw [hw2]
    exact Lib.hid ((VarAt.new w 25 [.int .i64 b.size, .string b.premium, .string b.cells]).kept ((Below.refl _ _).alloc (Nat.le_refl _) _))
  have VP : Hid (VarAt w2 (w.heap.size + 1) 30 [.int .i64 p.row, .int .i64 p.col, .bool p.down, .string p.word]) := by
    rw [hw2]
    have := VarAt.new (w.alloc (.cells #[.int .i64 b.size, .string b.premium, .string b.cells] 25)) 30 [.int .i64 p.row, .int .i64 p.col, .bool p.down, .string p.word]
    simp only [World.size_alloc] at this
    exact Lib.hid this
  have HE := Lib.hid (hE.kept hb)
  have HW2 := Lib.hid hw2
  clear hw2 hE
  cases h1 : b.ok with
  | false =>
    have HN := Lib.hid (okPlay_bad (p := p) h1)
    go_enter Tryz.func48, Tryz.ntmps48
    go_upto_region 1 with fail
    rw [← HW2.out]
    clear HW2
    have b0 := VB.out.cell (i := 0) rfl
    have b1 := VB.out.cell (i := 1) rfl
    have b2 := VB.out.cell (i := 2) rfl
    go_wp2_with fail
    refine (ValidBoard_any b _ hf).mono ?_
    rintro e w3 ⟨rfl, hd⟩
    rw [h1]
    clear h1
    replace hb := hb.trans (hd.mono hb.size)
    clear hd
    go_wp2
    go_ret
    exact ⟨ret_bool HN.out.symm, hb⟩
  | true =>
    obtain ⟨n, hgd⟩ := Brd.good h1
    go_enter Tryz.func48, Tryz.ntmps48
    go_upto_region 1 with fail
    rw [← HW2.out]
    clear HW2
    have c0 := VP.out.cell (i := 0) rfl
    have c1 := VP.out.cell (i := 1) rfl
    have c2 := VP.out.cell (i := 2) rfl
    have c3 := VP.out.cell (i := 3) rfl
    have b0 := VB.out.cell (i := 0) rfl
    have b1 := VB.out.cell (i := 1) rfl
    have b2 := VB.out.cell (i := 2) rfl
    go_wp2_with fail
    refine (ValidBoard_any b _ hf).mono ?_
    rintro e w3 ⟨rfl, hd⟩
    rw [h1]
    clear h1
    replace hb := hb.trans (hd.mono hb.size)
    replace c0 := cell_kept c0 hd
    replace c1 := cell_kept c1 hd
    replace c2 := cell_kept c2 hd
    replace c3 := cell_kept c3 hd
    replace b0 := cell_kept b0 hd
    replace b1 := cell_kept b1 hd
    replace b2 := cell_kept b2 hd
    replace HE := Lib.hid (HE.out.kept hd)
    clear hd
    go_wp2_with fail
    refine (validOn_any b p n _ hgd hs HE.out).mono ?_
    rintro e w4 ⟨rfl, hd⟩
    replace hb := hb.trans (hd.mono hb.size)
    clear hd
    go_wp2
    go_ret
    exact ⟨rfl, hb⟩
end Go.Proofs.YtjdcdhhbgijaoaaGreatDoor
namespace Go.Proofs.YtjdcdhhbgijaoaaGreatDoor
open Go.ChangeShapes Go.WideShapes Go.ChangeAt Go.RowKit Go.Sort

def Sq.enc (s : Int × Int) : List Value := [.int .i64 s.1, .int .i64 s.2]
theorem Sq.enc_len (s : Int × Int) : (Sq.enc s).length = 2 := rfl
theorem sq_one (s : Int × Int) : ∀ u ∈ Sq.enc s, u.oneCell' = true := by
  intro u hu
  simp only [Sq.enc, List.mem_cons, List.not_mem_nil, or_false] at hu
  rcases hu with rfl | rfl <;> rfl
theorem new_sq (w : World) (s : Int × Int) (t : TypeId) : ∀ j u, (Sq.enc s)[j]? = some u → (w.alloc (.cells #[.int .i64 s.1, .int .i64 s.2] t)).cell? ((⟨w.heap.size, 0, none⟩ : Addr).add j) = some u := by
  intro j u hu
  rw [Go.Addr.add_lit, Nat.zero_add]
  match j, hu with
  | 0, hu => simp only [Sq.enc, List.getElem?_cons_zero, Option.some.injEq] at hu; subst hu; exact cell_new0 w _ t rfl
  | 1, hu => simp only [Sq.enc, List.getElem?_cons_succ, List.getElem?_cons_zero, Option.some.injEq] at hu; subst hu; exact cell_new0 w _ t rfl
  | j + 2, hu => simp [Sq.enc] at hu
theorem infoSq : (Tryz.prog.info? 73).map (fun i => (i.zero, i.size, i.bytes)) = some (some (.agg #[.int .i64 0, .int .i64 0]), 2, 16) := by kernel_rfl
theorem infoInt : (Tryz.prog.info? 3).map (fun i => (i.zero, i.size, i.bytes)) = some (some (.int .i64 0), 1, 8) := by kernel_rfl
def sqOf (p : Ply) (i : Nat) : Int × Int := (p.sr i, p.sc i)
/-- on a valid play's squares: a letter, or free -/
theorem PGood.full {b : Brd} {p : Ply} {n : Nat} (h : PGood b p n) {k : Nat} (hk : k < p.word.size) : fullC (b.view p p.r (p.c + k)) = (b.view p p.r (p.c + k) != 46) := by
  refine (h.good.flat p.down).full_eq ?_
  rw [(h.good.flat p.down).inB]
  have h1 := h.r0
  have h2 := h.r1
  have h3 := h.c0
  have h4 := h.c1
  omega
theorem PGood.rows {b : Brd} {p : Ply} {n : Nat} (h : PGood b p n) : (-100 ≤ p.row ∧ p.row ≤ 100) ∧ (-100 ≤ p.col ∧ p.col ≤ 100) := by
  have h0 := h.good.hi
  have h1 := h.r0
  have h2 := h.r1
  have h3 := h.c0
  have h4 := h.c1
  unfold Ply.r at h1 h2
  unfold Ply.c at h3 h4
  cases hd : p.down <;> rw [hd] at h1 h2 h3 h4 <;> simp only [if_true, if_false, Bool.false_eq_true] at h1 h2 h3 h4 <;> omega
theorem PGood.ascii {b : Brd} {p : Ply} {n : Nat} (h : PGood b p n) : ∀ k (hk : k < p.word.size), (p.word[k]).toNat < 128 := fun k hk => by
  have := List.all_eq_true.1 h.letters p.word[k] (by rw [← bytes_get p.word k hk]; exact List.getElem_mem _)
  exact let_ascii this
/-- the squares that a play fills, and their places in the word -/
def NewPost (p : Ply) (fr : List Nat) (w : World) (e : Ending) (w' : World) : Prop :=
  ∃ g1 c1 g2 c2, e = .returned (.tuple #[.slice (some ⟨g1, 0, none⟩) fr.length c1, .slice (some ⟨g2, 0, none⟩) fr.length c2]) ∧ g1 ≠ g2 ∧
    w'.ownsRow w.heap.size 73 2 (.slice (some ⟨g1, 0, none⟩) fr.length c1) fr.length ((fr.map (sqOf p)).flatMap Sq.enc) ∧
    w'.ownsRow w.heap.size 3 1 (.slice (some ⟨g2, 0, none⟩) fr.length c2) fr.length (fr.flatMap N64.enc) ∧ Below w.heap.size w w'
set_option maxRecDepth 100000 in
set_option maxHeartbeats 4000000 in
theorem newSquares_any (b : Brd) (p : Ply) (n : Nat) (w : World) (hp : PGood b p n) :
    Calls Tryz.prog 121 #[.agg #[.int .i64 b.size, .string b.premium, .string b.cells], .agg #[.int .i64 p.row, .int .i64 p.col, .bool p.down, .string p.word]] w (NewPost p (b.fresh p) w) := by
  obtain ⟨i0, hi0, hi1, hi2, hi3⟩ := info_parts infoSq
  obtain ⟨j0, hj0, hj1, hj2, hj3⟩ := info_parts infoInt
  have hn15 := hp.good.hi
  have hs12 := hp.twelve
  obtain ⟨w2, hw2⟩ : ∃ w2, w2 = (((w.alloc (.cells #[.int .i64 b.size, .string b.premium, .string b.cells] 25)).alloc (.cells #[.int .i64 p.row, .int .i64 p.col, .bool p.down, .string p.word] 30)).alloc (.cells #[] 73)).alloc (.cells #[] 3) := ⟨_, rfl⟩
  have hw2s : w.heap.size + 4 ≤ w2.heap.size := by rw [hw2]; simp
  have hb : Below w.heap.size w w2 := by rw [hw2]; exact ((((Below.refl _ _).alloc (Nat.le_refl _) _).alloc (by simp) _).alloc (by simp; omega) _).alloc (by simp; omega) _
  have VB : Hid (VarAt w2 w.heap.size 25 [.int .i64 b.size, .string b.premium, .string b.cells]) := by
    rw [hw2]
    exact Lib.hid ((((VarAt.new w 25 [.int .i64 b.size, .string b.premium, .string b.cells]).kept ((Below.refl _ _).alloc (Nat.le_refl _) _)).kept ((Below.refl _ _).alloc (Nat.le_refl _) _)).kept ((Below.refl _ _).alloc (Nat.le_refl _) _))
  have VP : Hid (VarAt w2 (w.heap.size + 1) 30 [.int .i64 p.row, .int .i64 p.col, .bool p.down, .string p.word]) := by
    rw [hw2]
    have := ((VarAt.new (w.alloc (.cells #[.int .i64 b.size, .string b.premium, .string b.cells] 25)) 30 [.int .i64 p.row, .int .i64 p.col, .bool p.down, .string p.word]).kept ((Below.refl _ _).alloc (Nat.le_refl _) (.cells #[] 73))).kept ((Below.refl _ _).alloc (Nat.le_refl _) (.cells #[] 3))
    simp only [World.size_alloc] at this
    exact Lib.hid this
  have HO : Hid (w2.ownsRow (w.heap.size + 2) 73 2 (.slice (some ⟨w.heap.size + 1 + 1, 0, none⟩) 0 0) 0 []) := by
    rw [hw2]
    have := World.ownsRow_made (base := w.heap.size + 2) (e := 73) (size := 2) ((w.alloc (.cells #[.int .i64 b.size, .string b.premium, .string b.cells] 25)).alloc (.cells #[.int .i64 p.row, .int .i64 p.col, .bool p.down, .string p.word] 30)) #[] 0 (by simp) (by unfold maxLen; omega) rfl
    simp only [World.size_alloc] at this
    exact Lib.hid (own_below this ((Below.refl _ _).alloc (Nat.le_refl _) _))
  have HX : Hid (w2.ownsRow (w.heap.size + 2) 3 1 (.slice (some ⟨w.heap.size + 1 + 1 + 1, 0, none⟩) 0 0) 0 []) := by
    rw [hw2]
    have := World.ownsRow_made (base := w.heap.size + 2) (e := 3) (size := 1) (((w.alloc (.cells #[.int .i64 b.size, .string b.premium, .string b.cells] 25)).alloc (.cells #[.int .i64 p.row, .int .i64 p.col, .bool p.down, .string p.word] 30)).alloc (.cells #[] 73)) #[] 0 (by simp) (by unfold maxLen; omega) rfl
    simp only [World.size_alloc] at this
    exact Lib.hid this
  have HSQ : Hid (∀ (k : Int) W, -100 ≤ k ∧ k ≤ 100 → Calls Tryz.prog 177 #[.agg #[.int .i64 p.row, .int .i64 p.col, .bool p.down, .string p.word], .int .i64 k] W fun e w' => e = .returned (.agg #[.int .i64 (p.sr k), .int .i64 (p.sc k)]) ∧ Below W.heap.size W w') := Lib.hid (fun k W hk => square_any p k W hk hp.rows.1 hp.rows.2)
  have HON : Hid (∀ (k : Nat) W, k < p.word.size → Calls Tryz.prog 191 #[.agg #[.int .i64 b.size, .string b.premium, .string b.cells], .agg #[.int .i64 (p.sr k), .int .i64 (p.sc k)]] W fun e w' => e = .returned (.bool (b.view p p.r (p.c + k) != 46)) ∧ Below W.heap.size W w') := Lib.hid (fun k W hk => by
    rw [← hp.full hk, ← hp.good.sq]
    exact on_any b n _ _ W hp.good)
  have HAS := Lib.hid hp.ascii
  have HFS := Lib.hid (freshL_succ (b.view p) p.r p.c)
  have HFL := Lib.hid (freshL_len (b.view p) p.r p.c)
  have HFE : Hid (b.fresh p = freshL (b.view p) p.r p.c p.word.size) := Lib.hid rfl
  rw [HFE.out]
  have HW2 := Lib.hid hw2
  clear hw2 hp HFE
  generalize b.view p = F at *
  go_enter Tryz.func121, Tryz.ntmps121
  go_upto_region 2 with fail
  rw [← HW2.out]
  clear HW2
  have c3 := VP.out.cell (i := 3) rfl
  have hit := iter_below w2 p.word
  have HI := Lib.hid (IterAt.new w2 p.word)
  have hitl := HI.out.lt
  go_wp2_with fail
  clear c3
  replace HO := Lib.hid (own_below HO.out hit)
  replace HX := Lib.hid (own_below HX.out hit)
  replace VB := Lib.hid (VB.out.kept hit)
  replace VP := Lib.hid (VP.out.kept hit)
  replace hb := hb.trans (hit.mono hb.size)
  clear hit
  generalize w2.iter p.word 0 = w5 at *
  obtain ⟨it, hit⟩ : ∃ it, it = w2.heap.size := ⟨_, rfl⟩
  rw [← hit] at HI hitl ⊢
  have hitg : w.heap.size + 4 ≤ it := by omega
  clear hit hw2s
  go_loopw [6, 7] (fun ov xv wr => ∃ (k m g1 c1 g2 c2 : Nat), k ≤ p.word.size ∧ (freshL F p.r p.c k).length = m ∧ ov = .slice (some ⟨g1, 0, none⟩) m c1 ∧ xv = .slice (some ⟨g2, 0, none⟩) m c2 ∧ g1 ≠ g2 ∧ g1 ≠ it ∧ g2 ≠ it ∧ it < wr.heap.size ∧ Hid (wr.ownsRow (w.heap.size + 2) 73 2 (.slice (some ⟨g1, 0, none⟩) m c1) m (((freshL F p.r p.c k).map (sqOf p)).flatMap Sq.enc)) ∧ Hid (wr.ownsRow (w.heap.size + 2) 3 1 (.slice (some ⟨g2, 0, none⟩) m c2) m ((freshL F p.r p.c k).flatMap N64.enc)) ∧ Hid (IterAt wr it p.word k) ∧ Hid (VarAt wr w.heap.size 25 [.int .i64 b.size, .string b.premium, .string b.cells]) ∧ Hid (VarAt wr (w.heap.size + 1) 30 [.int .i64 p.row, .int .i64 p.col, .bool p.down, .string p.word]) ∧ Below w.heap.size w wr) (fun _ _ wr => p.word.size - wr.iterPos it)
  case atStart => exact ⟨0, 0, _, 0, _, 0, Nat.zero_le _, rfl, rfl, rfl, by omega, by omega, by omega, hitl, HO, HX, HI, VB, VP, hb⟩
  case round =>
    clear HO HX HI VB VP hb hitl
    obtain ⟨k, m, g1, c1, g2, c2, hk, hml, rfl, rfl, hn12, hn1, hn2, hitl, HO, HX, HI, VB, VP, hb⟩ := hrel
    have hz2 := VP.out.lt
    by_cases hlt : k < p.word.size
    · obtain ⟨w1, hnx, hi2, hg2⟩ := next_at (P := Tryz.prog) HI.out hlt (HAS.out k hlt)
      have HPO := Lib.hid HI.out.pos
      have HML := Lib.hid hml
      have hm12 : m ≤ 12 := by
        have := HFL.out k
        omega
      replace HI := Lib.hid hi2
      replace VB := Lib.hid (VB.out.grown hg2 (by simp; omega))
      replace VP := Lib.hid (VP.out.grown hg2 (by simp; omega))
      replace HO := Lib.hid (HO.out.kept hg2 (.inr (by simp [Value.ownBlock]; omega)))
      replace HX := Lib.hid (HX.out.kept hg2 (.inr (by simp [Value.ownBlock]; omega)))
      have hitn := Nat.lt_of_lt_of_le hitl hg2.size
      clear hitl
      have hitl := hitn
      have hz3 := hg2.size
      replace hb := hb.grown hg2 hb.size (fun q h => by cases h; omega)
      clear hi2 hg2 hitn hml
      have b0 := VP.out.cell (i := 0) rfl
      have b1 := VP.out.cell (i := 1) rfl
      have b2 := VP.out.cell (i := 2) rfl
      have b3 := VP.out.cell (i := 3) rfl
      go_wp2_with fail
      clear hnx b0 b1 b2 b3
      refine (HSQ.out k _ (by omega)).mono ?_
      rintro e w6 ⟨rfl, hd⟩
      replace HO := Lib.hid (own_below HO.out hd)
      replace HX := Lib.hid (own_below HX.out hd)
      replace VB := Lib.hid (VB.out.kept hd)
      replace VP := Lib.hid (VP.out.kept hd)
      replace HI := Lib.hid (HI.out.kept hd)
      have hitn := Nat.lt_of_lt_of_le hitl hd.size
      clear hitl
      have hitl := hitn
      clear hitn
      replace hb := hb.trans (hd.mono hb.size)
      clear hd
      have VS := Lib.hid (VarAt.new w6 73 [.int .i64 (p.sr k), .int .i64 (p.sc k)])
      have hd : Below w6.heap.size w6 (w6.alloc (.cells #[.int .i64 (p.sr k), .int .i64 (p.sc k)] 73)) := (Below.refl _ _).alloc (Nat.le_refl _) _
      replace HO := Lib.hid (own_below HO.out hd)
      replace HX := Lib.hid (own_below HX.out hd)
      replace VB := Lib.hid (VB.out.kept hd)
      replace VP := Lib.hid (VP.out.kept hd)
      replace HI := Lib.hid (HI.out.kept hd)
      have hitn := Nat.lt_of_lt_of_le hitl hd.size
      clear hitl
      have hitl := hitn
      clear hitn
      replace hb := hb.trans (hd.mono hb.size)
      clear hd
      have b0 := VB.out.cell (i := 0) rfl
      have b1 := VB.out.cell (i := 1) rfl
      have b2 := VB.out.cell (i := 2) rfl
      have s0 := VS.out.cell (i := 0) rfl
      have s1 := VS.out.cell (i := 1) rfl
      go_wp2_with fail
      clear b0 b1 b2 s0 s1
      refine (HON.out k _ hlt).mono ?_
      rintro e w7 ⟨rfl, hd⟩
      replace VS := Lib.hid (VS.out.kept hd)
      replace HO := Lib.hid (own_below HO.out hd)
      replace HX := Lib.hid (own_below HX.out hd)
      replace VB := Lib.hid (VB.out.kept hd)
      replace VP := Lib.hid (VP.out.kept hd)
      replace HI := Lib.hid (HI.out.kept hd)
      have hitn := Nat.lt_of_lt_of_le hitl hd.size
      clear hitl
      have hitl := hitn
      clear hitn
      replace hb := hb.trans (hd.mono hb.size)
      clear hd
      cases e1 : (F p.r (p.c + k) != 46) with
      | false =>
        have HFE : Hid (freshL F p.r p.c (k + 1) = freshL F p.r p.c k ++ [k]) := Lib.hid (by
          rw [HFS.out, show (F p.r (p.c + k) == 46) = true from by simpa using e1]; rfl)
        have HMS : Hid ((freshL F p.r p.c (k + 1)).map (sqOf p) = (freshL F p.r p.c k).map (sqOf p) ++ [(p.sr k, p.sc k)]) := Lib.hid (by rw [HFE.out, List.map_append]; rfl)
        clear e1
        have s0 := VS.out.cell (i := 0) rfl
        have s1 := VS.out.cell (i := 1) rfl
        have hd : Below w7.heap.size w7 (w7.alloc (.cells #[.int .i64 (p.sr k), .int .i64 (p.sc k)] 73)) := (Below.refl _ _).alloc (Nat.le_refl _) _
        have KN := Lib.hid (new_sq w7 (p.sr k, p.sc k) 73)
        have hz4 := VP.out.lt
        have hitl7 := hitl
        replace HO := Lib.hid (own_below HO.out hd)
        replace HX := Lib.hid (own_below HX.out hd)
        replace VB := Lib.hid (VB.out.kept hd)
        replace VP := Lib.hid (VP.out.kept hd)
        replace HI := Lib.hid (HI.out.kept hd)
        have hitn := Nat.lt_of_lt_of_le hitl hd.size
        clear hitl
        have hitl := hitn
        clear hitn
        replace hb := hb.trans (hd.mono hb.size)
        clear hd
        go_wp2_with (at_builtin; go_must (refine wpList_append_lies _ rfl (.tmp 25) (.tmp 27) 65 rfl (w.heap.size + 2) 73 i0 _ 2 16 Tryz.underlying65 hi0 hi1 hi2 hi3 rfl (by decide) _ m (((freshL F p.r p.c k).map (sqOf p)).flatMap Sq.enc) (by rfl) HO.out ⟨w7.heap.size, 0, none⟩ 1 1 (Sq.enc (p.sr k, p.sc k)) (by rfl) rfl KN.out (sq_one (p.sr k, p.sc k)) (by decide) ?c1 ?c2 ?c3 _ rfl ?_))
        case c1 => unfold maxLen; omega
        case c2 => omega
        case c3 => (first | omega | (simp only [World.size_alloc]; omega))
        intro g7 cap7 w8 hown hgr hwh hlt7
        have hw7s : w7.heap.size ≤ w8.heap.size := Nat.le_trans (by simp) hgr.size
        have hx2 := (HX.out.lt g2 rfl).2
        have hne72 : g7 ≠ g2 ∧ g7 ≠ it := by
          rcases hwh with h | h
          · simp [Value.ownBlock] at h; omega
          · (first | omega | (simp only [World.size_alloc] at hx2 hitl; omega))
        have HO7 : Hid (w8.ownsRow (w.heap.size + 2) 73 2 (.slice (some ⟨g7, 0, none⟩) (m + 1) cap7) (m + 1) (((freshL F p.r p.c (k + 1)).map (sqOf p)).flatMap Sq.enc)) := Lib.hid (by
          rw [HMS.out, snoc_flat Sq.enc]; exact hown)
        have hb8 := hb.grown hgr hb.size (fun q e => by have := (HO.out.lt q e).1; omega)
        have hit8 : it < w8.heap.size := Nat.lt_of_lt_of_le hitl hgr.size
        have hz8 : w.heap.size + 2 ≤ w8.heap.size := Nat.le_trans (by (first | omega | (simp only [World.size_alloc]; omega))) hgr.size
        replace HX := Lib.hid (HX.out.kept hgr (.inr (by simp [Value.ownBlock]; omega)))
        replace VB := Lib.hid (VB.out.grown hgr (own_ne HO.out (by omega)))
        replace VP := Lib.hid (VP.out.grown hgr (own_ne HO.out (by omega)))
        replace HI := Lib.hid (HI.out.grown hgr (by simp [Value.ownBlock]; omega))
        clear hown hgr hwh KN HO hb HMS hitl hitl7 hx2 s0 s1 VS
        have hb := hb8
        have hitl := hit8
        clear hb8 hit8
        have HO := HO7
        clear HO7
        have hd : Below w8.heap.size w8 (w8.alloc (.cells #[.int .i64 (k : Int)] 3)) := (Below.refl _ _).alloc (Nat.le_refl _) _
        have KN := Lib.hid (new_n64 w8 k 3)
        replace HO := Lib.hid (own_below HO.out hd)
        replace HX := Lib.hid (own_below HX.out hd)
        replace VB := Lib.hid (VB.out.kept hd)
        replace VP := Lib.hid (VP.out.kept hd)
        replace HI := Lib.hid (HI.out.kept hd)
        have hitn := Nat.lt_of_lt_of_le hitl hd.size
        clear hitl
        have hitl := hitn
        clear hitn
        replace hb := hb.trans (hd.mono hb.size)
        clear hd
        have hg7l := (HO.out.lt g7 rfl).2
        go_wp2_with (at_builtin; go_must (refine wpList_append_lies _ rfl (.tmp 29) (.tmp 31) 136 rfl (w.heap.size + 2) 3 j0 _ 1 8 Tryz.underlying136 hj0 hj1 hj2 hj3 rfl (by decide) _ m ((freshL F p.r p.c k).flatMap N64.enc) (by rfl) HX.out ⟨w8.heap.size, 0, none⟩ 1 1 (N64.enc k) (by rfl) rfl KN.out (n64_one k) (by decide) ?c4 ?c5 ?c6 _ rfl ?_))
        case c4 => unfold maxLen; omega
        case c5 => omega
        case c6 => (first | omega | (simp only [World.size_alloc]; omega))
        intro g9 cap9 w9 hown hgr hwh hlt9
        have hne79 : g7 ≠ g9 ∧ g9 ≠ it := by
          rcases hwh with h | h
          · simp [Value.ownBlock] at h; omega
          · (first | omega | (simp only [World.size_alloc] at hg7l hitl; omega))
        have HX9 : Hid (w9.ownsRow (w.heap.size + 2) 3 1 (.slice (some ⟨g9, 0, none⟩) (m + 1) cap9) (m + 1) ((freshL F p.r p.c (k + 1)).flatMap N64.enc)) := Lib.hid (by
          rw [HFE.out, snoc_flat N64.enc]; exact hown)
        have hb9 := hb.grown hgr hb.size (fun q e => by have := (HX.out.lt q e).1; omega)
        have hit9 : it < w9.heap.size := Nat.lt_of_lt_of_le hitl hgr.size
        have HO9 := Lib.hid (HO.out.kept hgr (.inr (by simp [Value.ownBlock]; omega)))
        have VB9 := Lib.hid (VB.out.grown hgr (own_ne HX.out (by omega)))
        have VP9 := Lib.hid (VP.out.grown hgr (own_ne HX.out (by omega)))
        have HI9 := Lib.hid (HI.out.grown hgr (by simp [Value.ownBlock]; omega))
        have HM9 : Hid ((freshL F p.r p.c (k + 1)).length = m + 1) := Lib.hid (by rw [HFE.out, List.length_append, HML.out]; rfl)
        clear hown hgr hwh KN HO HX hb VB VP HI
        go_wp2
        go_roundw
        case rel => exact ⟨k + 1, m + 1, g7, cap7, g9, cap9, by omega, HM9.out, rfl, rfl, hne79.1, hne72.2, hne79.2, hit9, HO9, HX9, HI9, VB9, VP9, hb9⟩
        case measure => rw [HPO.out, HI9.out.pos]; omega
      | true =>
        have HFE : Hid (freshL F p.r p.c (k + 1) = freshL F p.r p.c k) := Lib.hid (by
          rw [HFS.out, show (F p.r (p.c + k) == 46) = false from by simpa using e1]; simp)
        have HO9 : Hid (w7.ownsRow (w.heap.size + 2) 73 2 (.slice (some ⟨g1, 0, none⟩) m c1) m (((freshL F p.r p.c (k + 1)).map (sqOf p)).flatMap Sq.enc)) := Lib.hid (by rw [HFE.out]; exact HO.out)
        have HX9 : Hid (w7.ownsRow (w.heap.size + 2) 3 1 (.slice (some ⟨g2, 0, none⟩) m c2) m ((freshL F p.r p.c (k + 1)).flatMap N64.enc)) := Lib.hid (by rw [HFE.out]; exact HX.out)
        have HM9 : Hid ((freshL F p.r p.c (k + 1)).length = m) := Lib.hid (by rw [HFE.out, HML.out])
        clear e1 HO HX VS
        go_wp2
        go_roundw
        case rel => exact ⟨k + 1, m, g1, c1, g2, c2, by omega, HM9.out, rfl, rfl, hn12, hn1, hn2, hitl, HO9, HX9, HI, VB, VP, hb⟩
        case measure => rw [HPO.out, HI.out.pos]; omega
    · have hnx := next_end (P := Tryz.prog) HI.out hlt
      obtain rfl : k = p.word.size := by omega
      have HML := Lib.hid hml
      clear hml
      go_wp2
      go_ret2
      exact ⟨g1, c1, g2, c2, by rw [HML.out]; rfl, hn12, by rw [HML.out]; exact own_mono HO.out (by omega), by rw [HML.out]; exact own_mono HX.out (by omega), hb⟩
end Go.Proofs.YtjdcdhhbgijaoaaGreatDoor

namespace Go.Proofs.YtjdcdhhbgijaoaaGreatDoor
open Go.ChangeShapes Go.WideShapes Go.ChangeAt Go.RowKit Go.Sort

/-! ### Plain -/
def Ply.idx (p : Ply) (n k : Nat) : Nat := (p.sr k * n + p.sc k).toNat
def madeK (n : Nat) (p : Ply) (L : List UInt8) : Nat → List UInt8
  | 0 => L
  | k + 1 => (madeK n p L k).set (p.idx n k) (p.word.data.toList.getD k 0)
def Brd.made (b : Brd) (p : Ply) : Brd := ⟨b.size, b.premium, mkB (madeK b.size.toNat p b.cells.data.toList p.word.size)⟩
theorem madeK_len (n : Nat) (p : Ply) (L : List UInt8) : ∀ k, (madeK n p L k).length = L.length
  | 0 => rfl
  | k + 1 => by rw [madeK, List.length_set, madeK_len n p L k]
theorem madeK_all {n : Nat} {p : Ply} {L : List UInt8} {f : UInt8 → Bool} (h : L.all f = true) : ∀ k, k ≤ p.word.size → p.word.data.toList.all f = true → (madeK n p L k).all f = true
  | 0, _, _ => h
  | k + 1, hk, hw => by
    rw [madeK, List.all_eq_true]
    intro x hx
    rcases List.mem_or_eq_of_mem_set hx with h1 | h1
    · exact List.all_eq_true.1 (madeK_all h k (by omega) hw) x h1
    · rw [h1, getD_byt (by omega)]
      exact List.all_eq_true.1 hw _ (by rw [← bytes_get p.word k (by omega)]; exact List.getElem_mem _)
/-- the squares of a valid play lie on the board -/
theorem PGood.sq_in {b : Brd} {p : Ply} {n : Nat} (h : PGood b p n) {k : Nat} (hk : k < p.word.size) : (0 ≤ p.sr k ∧ p.sr k < n) ∧ 0 ≤ p.sc k ∧ p.sc k < n := by
  have h1 := h.r0
  have h2 := h.r1
  have h3 := h.c0
  have h4 := h.c1
  unfold Ply.r at h1 h2
  unfold Ply.c at h3 h4
  unfold Ply.sr Ply.sc
  cases hd : p.down <;> rw [hd] at h1 h2 h3 h4 <;> simp only [if_true, if_false, Bool.false_eq_true] at h1 h2 h3 h4 ⊢ <;> omega
theorem PGood.idx_lt {b : Brd} {p : Ply} {n : Nat} (h : PGood b p n) {k : Nat} (hk : k < p.word.size) : ∃ i j : Nat, p.sr k = i ∧ p.sc k = j ∧ i < n ∧ j < n ∧ p.idx n k = i * n + j ∧ i * n + j < b.cells.size := by
  obtain ⟨⟨a1, a2⟩, a3, a4⟩ := h.sq_in hk
  obtain ⟨i, hi⟩ := Int.eq_ofNat_of_zero_le a1
  obtain ⟨j, hj⟩ := Int.eq_ofNat_of_zero_le a3
  have hl := h.good.get (r := i) (c := j) (by omega) (by omega)
  refine ⟨i, j, hi, hj, by omega, by omega, ?_, hl⟩
  unfold Ply.idx
  rw [hi, hj, ← Int.natCast_mul, ← Int.natCast_add, Int.toNat_natCast]
theorem PGood.made_good {b : Brd} {p : Ply} {n : Nat} (h : PGood b p n) : (b.made p).Good n := by
  refine ⟨h.good.size, h.good.lo, h.good.hi, h.good.prem, ?_, h.good.okP, ?_⟩
  · unfold Brd.made
    rw [mkB_size, madeK_len]
    have := h.good.cells
    simpa using this
  · unfold Brd.made allC
    rw [mkB_data]
    refine madeK_all h.good.okC _ (Nat.le_refl _) ?_
    rw [List.all_eq_true]
    intro x hx
    have := List.all_eq_true.1 h.letters x hx
    unfold letB at this
    unfold cellB
    rw [Bool.or_assoc, this, Bool.or_true]
theorem madeK_in {n : Nat} {p : Ply} {L : List UInt8} (hinj : ∀ i j, i < p.word.size → j < p.word.size → p.idx n i = p.idx n j → i = j) (hlt : ∀ i, i < p.word.size → p.idx n i < L.length) :
    ∀ k, k ≤ p.word.size → ∀ i, i < k → (madeK n p L k).getD (p.idx n i) 0 = p.word.data.toList.getD i 0
  | 0, _, i, hi => by omega
  | k + 1, hk, i, hi => by
    rw [madeK, List.getD_eq_getElem?_getD, List.getElem?_set]
    by_cases e : p.idx n k = p.idx n i
    · rw [if_pos e]
      have := hinj k i (by omega) (by omega) e
      subst this
      rw [if_pos (by rw [madeK_len]; exact hlt k (by omega))]
      rfl
    · rw [if_neg e]
      have hik : i ≠ k := fun e2 => e (by rw [e2])
      have := madeK_in hinj hlt k (by omega) i (by omega)
      rwa [List.getD_eq_getElem?_getD] at this
theorem madeK_out {n : Nat} {p : Ply} {L : List UInt8} {x : Nat} : ∀ k, (∀ i, i < k → p.idx n i ≠ x) → (madeK n p L k).getD x 0 = L.getD x 0
  | 0, _ => rfl
  | k + 1, h => by
    rw [madeK, List.getD_eq_getElem?_getD, List.getElem?_set, if_neg (h k (by omega))]
    have := madeK_out (n := n) (p := p) (L := L) k (fun i hi => h i (by omega))
    rwa [List.getD_eq_getElem?_getD] at this
theorem mul_inj {n i j i' j' : Nat} (hj : j < n) (hj' : j' < n) (h : i * n + j = i' * n + j') : i = i' ∧ j = j' := by
  have h1 : (i * n + j) / n = i := by rw [Nat.mul_comm, Nat.mul_add_div (by omega), Nat.div_eq_of_lt hj]; omega
  have h2 : (i' * n + j') / n = i' := by rw [Nat.mul_comm, Nat.mul_add_div (by omega), Nat.div_eq_of_lt hj']; omega
  have e : i = i' := by rw [← h1, h, h2]
  subst e
  exact ⟨rfl, by omega⟩
theorem PGood.idx_inj {b : Brd} {p : Ply} {n : Nat} (h : PGood b p n) : ∀ i j, i < p.word.size → j < p.word.size → p.idx n i = p.idx n j → i = j := by
  intro i j hi hj he
  obtain ⟨a, c, e1, e2, l1, l2, e3, _⟩ := h.idx_lt hi
  obtain ⟨a', c', f1, f2, m1, m2, f3, _⟩ := h.idx_lt hj
  rw [e3, f3] at he
  obtain ⟨g1, g2⟩ := mul_inj l2 m2 he
  subst g1 g2
  unfold Ply.sr at e1 f1
  unfold Ply.sc at e2 f2
  cases hd : p.down <;> rw [hd] at e1 e2 f1 f2 <;> simp only [if_true, if_false, Bool.false_eq_true] at e1 e2 f1 f2 <;> omega
/-- the board after the play, seen across: its word in its row, all else as it was -/
theorem PGood.made_in {b : Brd} {p : Ply} {n : Nat} (h : PGood b p n) {k : Nat} (hk : k < p.word.size) : (b.made p).view p p.r (p.c + k) = p.word.data.toList.getD k 0 := by
  have e := h.made_good.sq p k
  have e2 : (b.made p).view p p.r (p.c + k) = (b.made p).cell (p.sr k) (p.sc k) := e.symm
  rw [e2]
  obtain ⟨i, j, e1, e2, l1, l2, e3, hl⟩ := h.idx_lt hk
  have hg := h.made_good
  have hl2 : i * n + j < (b.made p).cells.size := by rw [hg.cells, ← h.good.cells]; exact hl
  rw [e1, e2, hg.cell_in l1 l2 rfl hl2, ← getD_byt hl2]
  show (mkB (madeK b.size.toNat p b.cells.data.toList p.word.size)).data.toList.getD _ 0 = _
  rw [mkB_data, ← e3, show b.size.toNat = n from by rw [h.good.size]; simp]
  exact madeK_in h.idx_inj (fun i hi => by
    obtain ⟨_, _, _, _, _, _, f3, fl⟩ := h.idx_lt hi
    rw [f3]; simpa using fl) _ (Nat.le_refl _) k hk
theorem PGood.made_out {b : Brd} {p : Ply} {n : Nat} (h : PGood b p n) {R C : Int} (ho : R ≠ p.r ∨ C < p.c ∨ p.c + p.word.size ≤ C) : (b.made p).view p R C = b.view p R C := by
  have hs : (b.made p).view p R C = (b.made p).cell (if p.down then C else R) (if p.down then R else C) := by
    rw [h.made_good.view]; cases p.down <;> rfl
  have hs2 : b.view p R C = b.cell (if p.down then C else R) (if p.down then R else C) := by
    rw [h.good.view]; cases p.down <;> rfl
  rw [hs, hs2]
  generalize hx : (if p.down then C else R) = x at *
  generalize hy : (if p.down then R else C) = y at *
  have hin : (b.made p).inB x y = b.inB x y := rfl
  cases hi : b.inB x y with
  | false => rw [Brd.cell_out hi, Brd.cell_out (hin.trans hi)]
  | true =>
    have hi2 := h.good.inB.1 hi
    obtain ⟨i, rfl⟩ := Int.eq_ofNat_of_zero_le hi2.1.1
    obtain ⟨j, rfl⟩ := Int.eq_ofNat_of_zero_le hi2.2.1
    have hl := h.good.get (r := i) (c := j) (by omega) (by omega)
    have hg := h.made_good
    have hl2 : i * n + j < (b.made p).cells.size := by rw [hg.cells, ← h.good.cells]; exact hl
    rw [hg.cell_in (by omega) (by omega) rfl hl2, h.good.cell_in (by omega) (by omega) rfl hl, ← getD_byt hl2, ← getD_byt hl]
    show (mkB (madeK b.size.toNat p b.cells.data.toList p.word.size)).data.toList.getD _ 0 = _
    rw [mkB_data, show b.size.toNat = n from by rw [h.good.size]; simp]
    refine madeK_out _ fun k hk e => ?_
    obtain ⟨a, c, e1, e2, l1, l2, e3, _⟩ := h.idx_lt hk
    rw [e3] at e
    obtain ⟨g1, g2⟩ := mul_inj l2 (by omega) e
    subst g1 g2
    unfold Ply.sr at e1
    unfold Ply.sc at e2
    unfold Ply.r Ply.c at ho
    cases hd : p.down <;> rw [hd] at e1 e2 ho hx hy <;> simp only [if_true, if_false, Bool.false_eq_true] at e1 e2 ho hx hy <;> omega
end Go.Proofs.YtjdcdhhbgijaoaaGreatDoor

namespace Go.Proofs.YtjdcdhhbgijaoaaGreatDoor
open Go.ChangeShapes Go.WideShapes Go.ChangeAt Go.RowKit Go.Sort

set_option maxRecDepth 100000 in
set_option maxHeartbeats 4000000 in
theorem made_any (b : Brd) (p : Ply) (n : Nat) (w : World) (hp : PGood b p n) :
    Calls Tryz.prog 84 #[.agg #[.int .i64 b.size, .string b.premium, .string b.cells], .agg #[.int .i64 p.row, .int .i64 p.col, .bool p.down, .string p.word]] w fun e w' => e = .returned (.agg #[.int .i64 (b.made p).size, .string (b.made p).premium, .string (b.made p).cells]) ∧ Below w.heap.size w w' := by
  have hn15 := hp.good.hi
  have hs12 := hp.twelve
  have hbn := hp.good.size
  have hbt : b.size.toNat = n := by rw [hbn]; simp
  have hcs : b.cells.size ≤ 225 := by rw [hp.good.cells]; exact sq_mono hn15
  obtain ⟨w3, hw3⟩ : ∃ w3, w3 = ((w.alloc (.cells #[.int .i64 n, .string b.premium, .string b.cells] 25)).alloc (.cells #[.int .i64 p.row, .int .i64 p.col, .bool p.down, .string p.word] 30)).alloc (.cells #[.int .i64 0, .string ⟨#[]⟩, .string ⟨#[]⟩] 25) := ⟨_, rfl⟩
  have hs3 : w3.heap.size = w.heap.size + 1 + 1 + 1 := by rw [hw3]; simp
  have hb : Below w.heap.size w w3 := by rw [hw3]; exact (((Below.refl _ _).alloc (Nat.le_refl _) _).alloc (by simp) _).alloc (by simp; omega) _
  have VB : Hid (VarAt w3 w.heap.size 25 [.int .i64 n, .string b.premium, .string b.cells]) := by
    rw [hw3]
    exact Lib.hid (((VarAt.new w 25 [.int .i64 n, .string b.premium, .string b.cells]).kept ((Below.refl _ _).alloc (Nat.le_refl _) _)).kept ((Below.refl _ _).alloc (Nat.le_refl _) _))
  have VP : Hid (VarAt w3 (w.heap.size + 1) 30 [.int .i64 p.row, .int .i64 p.col, .bool p.down, .string p.word]) := by
    rw [hw3]
    have := (VarAt.new (w.alloc (.cells #[.int .i64 n, .string b.premium, .string b.cells] 25)) 30 [.int .i64 p.row, .int .i64 p.col, .bool p.down, .string p.word]).kept ((Below.refl _ _).alloc (Nat.le_refl _) (.cells #[.int .i64 0, .string ⟨#[]⟩, .string ⟨#[]⟩] 25))
    simp only [World.size_alloc] at this
    exact Lib.hid this
  have V0 : Hid (VarAt w3 (w.heap.size + 1 + 1) 25 [.int .i64 0, .string ⟨#[]⟩, .string ⟨#[]⟩]) := by
    rw [hw3]
    have := VarAt.new ((w.alloc (.cells #[.int .i64 n, .string b.premium, .string b.cells] 25)).alloc (.cells #[.int .i64 p.row, .int .i64 p.col, .bool p.down, .string p.word] 30)) 25 [.int .i64 0, .string ⟨#[]⟩, .string ⟨#[]⟩]
    simp only [World.size_alloc] at this
    exact Lib.hid this
  have HSQ : Hid (∀ (k : Int) W, -100 ≤ k ∧ k ≤ 100 → Calls Tryz.prog 177 #[.agg #[.int .i64 p.row, .int .i64 p.col, .bool p.down, .string p.word], .int .i64 k] W fun e w' => e = .returned (.agg #[.int .i64 (p.sr k), .int .i64 (p.sc k)]) ∧ Below W.heap.size W w') := Lib.hid (fun k W hk => square_any p k W hk hp.rows.1 hp.rows.2)
  have HAS := Lib.hid hp.ascii
  have HIX := Lib.hid (fun k (h : k < p.word.size) => hp.idx_lt h)
  have HRES : Hid (Ending.returned (.agg #[.int .i64 (b.made p).size, .string (b.made p).premium, .string (b.made p).cells]) = .returned (.agg #[.int .i64 n, .string b.premium, .string (mkB (madeK n p b.cells.data.toList p.word.size))])) := Lib.hid (by
    unfold Brd.made
    rw [hbt, hbn])
  have HLN := Lib.hid (madeK_len n p b.cells.data.toList)
  have HSC : Hid (∀ k, madeK n p b.cells.data.toList (k + 1) = (madeK n p b.cells.data.toList k).set (p.idx n k) (p.word.data.toList.getD k 0)) := Lib.hid (fun k => rfl)
  have HCL : Hid (b.cells.data.toList.length = b.cells.size) := Lib.hid (by simp)
  rw [HRES.out, hbn]
  obtain ⟨cp, w4, hcp, hcv, hr, hd⟩ := bytes_of b.cells w3
  rw [hs3] at hcv hr
  have HR : Hid (RowB w4 (w.heap.size + 1 + 1 + 1) (madeK n p b.cells.data.toList 0)) := Lib.hid hr
  have HW3 := Lib.hid hw3
  have g2 := VB.out.cell (i := 2) rfl
  clear hw3 hr HRES hbn hbt hp
  go_enter Tryz.func84, Tryz.ntmps84
  go_upto_region 1 with fail
  rw [← HW3.out]
  clear HW3
  go_upto_region 2 with fail
  clear hcv g2 hs3
  replace VB := Lib.hid (VB.out.kept hd)
  replace VP := Lib.hid (VP.out.kept hd)
  replace V0 := Lib.hid (V0.out.kept hd)
  replace hb := hb.trans (hd.mono hb.size)
  clear hd
  have hit := iter_below w4 p.word
  have HI := Lib.hid (IterAt.new w4 p.word)
  have hrlt := HR.out.lt
  have c3 := VP.out.cell (i := 3) rfl
  go_wp2_with fail
  clear c3
  replace VB := Lib.hid (VB.out.kept hit)
  replace VP := Lib.hid (VP.out.kept hit)
  replace V0 := Lib.hid (V0.out.kept hit)
  replace HR := Lib.hid (HR.out.kept hit)
  replace hb := hb.trans (hit.mono hb.size)
  clear hit
  generalize w4.iter p.word 0 = w5 at *
  generalize w4.heap.size = it at *
  go_loopw [6] (fun _ wr => ∃ k : Nat, k ≤ p.word.size ∧ Hid (IterAt wr it p.word k) ∧ Hid (RowB wr (w.heap.size + 1 + 1 + 1) (madeK n p b.cells.data.toList k)) ∧ Hid (VarAt wr w.heap.size 25 [.int .i64 n, .string b.premium, .string b.cells]) ∧ Hid (VarAt wr (w.heap.size + 1) 30 [.int .i64 p.row, .int .i64 p.col, .bool p.down, .string p.word]) ∧ Hid (VarAt wr (w.heap.size + 1 + 1) 25 [.int .i64 0, .string ⟨#[]⟩, .string ⟨#[]⟩]) ∧ Below w.heap.size w wr) (fun _ wr => p.word.size - wr.iterPos it)
  case atStart => exact ⟨0, Nat.zero_le _, HI, HR, VB, VP, V0, hb⟩
  case round =>
    clear HI HR VB VP V0 hb
    obtain ⟨k, hk, HI, HR, VB, VP, V0, hb⟩ := hrel
    by_cases hlt : k < p.word.size
    · obtain ⟨w1, hnx, hi2, hg2⟩ := next_at (P := Tryz.prog) HI.out hlt (HAS.out k hlt)
      have HPO := Lib.hid HI.out.pos
      obtain ⟨i, j, e1, e2, l1, l2, e3, hix⟩ := HIX.out k hlt
      have HT : Hid (madeK n p b.cells.data.toList (k + 1) = (madeK n p b.cells.data.toList k).set (i * n + j) p.word[k]) := Lib.hid (by rw [HSC.out, e3, getD_byt hlt])
      have HPL := Lib.hid (HLN.out k)
      replace HI := Lib.hid hi2
      replace VB := Lib.hid (VB.out.grown hg2 (by simp; omega))
      replace VP := Lib.hid (VP.out.grown hg2 (by simp; omega))
      replace V0 := Lib.hid (V0.out.grown hg2 (by simp; omega))
      replace HR := Lib.hid (HR.out.grown hg2 (by simp; omega))
      replace hb := hb.grown hg2 hb.size (fun q h => by cases h; omega)
      clear hi2 hg2 e3
      have HS1 : Hid (∀ W, Calls Tryz.prog 177 #[.agg #[.int .i64 p.row, .int .i64 p.col, .bool p.down, .string p.word], .int .i64 (k : Int)] W fun e w' => e = .returned (.agg #[.int .i64 (i : Int), .int .i64 (j : Int)]) ∧ Below W.heap.size W w') := Lib.hid (fun W => by
        have := HSQ.out k W (by omega)
        rwa [e1, e2] at this)
      clear e1 e2
      have b0 := VP.out.cell (i := 0) rfl
      have b1 := VP.out.cell (i := 1) rfl
      have b2 := VP.out.cell (i := 2) rfl
      have b3 := VP.out.cell (i := 3) rfl
      go_wp2_with fail
      clear hnx b0 b1 b2 b3
      refine (HS1.out _).mono ?_
      rintro e w6 ⟨rfl, hd⟩
      replace hb := hb.trans (hd.mono hb.size)
      replace HI := Lib.hid (HI.out.kept hd)
      replace HR := Lib.hid (HR.out.kept hd)
      replace VB := Lib.hid (VB.out.kept hd)
      replace VP := Lib.hid (VP.out.kept hd)
      replace V0 := Lib.hid (V0.out.kept hd)
      clear hd
      have VS := Lib.hid (VarAt.new w6 73 [.int .i64 (i : Int), .int .i64 (j : Int)])
      have hd : Below w6.heap.size w6 (w6.alloc (.cells #[.int .i64 (i : Int), .int .i64 (j : Int)] 73)) := (Below.refl _ _).alloc (Nat.le_refl _) _
      replace hb := hb.trans (hd.mono hb.size)
      replace HI := Lib.hid (HI.out.kept hd)
      replace HR := Lib.hid (HR.out.kept hd)
      replace VB := Lib.hid (VB.out.kept hd)
      replace VP := Lib.hid (VP.out.kept hd)
      replace V0 := Lib.hid (V0.out.kept hd)
      clear hd
      go_upto_region 6 with fail
      generalize hw7 : w6.alloc (.cells #[.int .i64 (i : Int), .int .i64 (j : Int)] 73) = w7 at *
      clear hw7
      have hd : Below w7.heap.size w7 w7.drew := (Below.refl _ _).drew
      replace hb := hb.trans (hd.mono hb.size)
      replace HI := Lib.hid (HI.out.kept hd)
      replace HR := Lib.hid (HR.out.kept hd)
      replace VB := Lib.hid (VB.out.kept hd)
      replace VP := Lib.hid (VP.out.kept hd)
      replace V0 := Lib.hid (V0.out.kept hd)
      replace VS := Lib.hid (VS.out.kept hd)
      clear hd
      have s0 := VS.out.cell (i := 0) rfl
      have s1 := VS.out.cell (i := 1) rfl
      have b0 := VB.out.cell (i := 0) rfl
      have b3 := VP.out.cell (i := 3) rfl
      obtain ⟨q, hq⟩ : ∃ q, q = i * n := ⟨_, rfl⟩
      have hqi : (i : Int) * (n : Int) = (q : Int) := by rw [hq]; push_cast; rfl
      rw [← hq] at HT hix
      have wr1 : IntKind.i64.wrap (q : Int) = q := IntWalk.i64_in _ (by omega)
      have wr2 : IntKind.i64.wrap ((q : Int) + (j : Int)) = (q : Int) + j := IntWalk.i64_in _ (by omega)
      have wr3 : ((q : Int) + (j : Int)).toNat = q + j := by omega
      have wr4 : (0 : Int) ≤ (q : Int) + (j : Int) := by omega
      have wr5 : (q : Int) + (j : Int) < (b.cells.size : Int) := by omega
      have st := HR.out.cell (i := q + j) (by rw [HPL.out, HCL.out]; exact hix)
      have sf := HR.out.free (i := q + j) (by rw [HPL.out, HCL.out]; exact hix)
      clear hq
      refine wp_region_still_tail 14 (by kernel_rfl) (by kernel_rfl) ?_
      simp only [List.take_succ_cons, List.take_zero, List.drop_succ_cons, List.drop_zero]
      change wpStill _ _ w7.drew (fun a' => wpList _ _ _ _ a' w7.drew) _ _
      generalize w7.drew = wd at *
      repeat still_step
      refine wpStill_nil ?_
      obtain ⟨h9, k9⟩ := HR.out.set (q + j) p.word[k]
      have HR9 := Lib.hid (h9.as HT.out.symm)
      have VB9 := Lib.hid (VB.out.grown k9 (by simp; omega))
      have VP9 := Lib.hid (VP.out.grown k9 (by simp))
      have V9 := Lib.hid (V0.out.grown k9 (by simp))
      have HI9 := Lib.hid (HI.out.grown k9 (by simp; omega))
      have hb9 := hb.grown k9 hb.size (fun q h => by cases h; omega)
      clear h9 k9 HR VB VP V0 HI hb s0 s1 b0 b3 VS wr1 wr2
      go_wp2
      go_roundw
      case rel => exact ⟨k + 1, by omega, HI9, HR9, VB9, VP9, V9, hb9⟩
      case measure => rw [HPO.out, HI9.out.pos]; omega
    · have hnx := next_end (P := Tryz.prog) HI.out hlt
      obtain rfl : k = p.word.size := by omega
      have HPL := Lib.hid (HLN.out p.word.size)
      generalize hP : madeK n p b.cells.data.toList p.word.size = P at *
      have HP := Lib.hid hP
      clear hP
      have hcv := HR.out.str (n := b.cells.size) (cap := cp) (by rw [HPL.out, HCL.out])
      have q0 := VB.out.cell (i := 0) rfl
      have q1 := VB.out.cell (i := 1) rfl
      have q2 := VB.out.cell (i := 2) rfl
      have p2 := VB.out.free 2
      obtain ⟨oG, kG⟩ := VB.out.set 2 (.string (mkB P))
      have r0 := oG.cell (i := 0) (v := .int .i64 n) rfl
      have r1 := oG.cell (i := 1) (v := .string b.premium) rfl
      have r2 := oG.cell (i := 2) (v := .string (mkB P)) rfl
      have V1 := Lib.hid (V0.out.grown kG (by simp; omega))
      have hb1 := hb.grown kG hb.size (fun q h => by cases h; exact Nat.le_refl _)
      have t0 := V1.out.cell (i := 0) rfl
      have t1 := V1.out.cell (i := 1) rfl
      have t2 := V1.out.cell (i := 2) rfl
      have u0 := V1.out.free 0
      have u1 := V1.out.free 1
      have u2 := V1.out.free 2
      obtain ⟨o0, k0⟩ := V1.out.set 0 (.int .i64 n)
      obtain ⟨o1, k1⟩ := o0.set 1 (.string b.premium)
      obtain ⟨o2, k2⟩ := o1.set 2 (.string (mkB P))
      have GG := grownBy_trans (grownBy_trans k0 k1) k2
      have hb9 := hb1.grown GG hb1.size (fun q h => by cases h; omega)
      have e0 := o2.cell (i := 0) (v := .int .i64 n) rfl
      have e1 := o2.cell (i := 1) (v := .string b.premium) rfl
      have e2 := o2.cell (i := 2) (v := .string (mkB P)) rfl
      clear o0 o1 o2 k0 k1 k2 GG oG kG hb1
      go_wp2
      refine bodyPost_ret (v := .agg #[.int .i64 n, .string b.premium, .string (mkB P)]) (by simp [results, Tryz.results84, go_sem, e0, e1, e2]) rfl ?_
      exact ⟨by rw [HP.out], hb9⟩
end Go.Proofs.YtjdcdhhbgijaoaaGreatDoor
namespace Go.Proofs.YtjdcdhhbgijaoaaGreatDoor
open Go.ChangeShapes Go.WideShapes Go.ChangeAt Go.RowKit Go.Sort

/-- the square at an offset in a direction -/
def dirSq (d : Bool) (r c m : Int) : Int × Int := if d then (r + m, c) else (r, c + m)
def lineF (b : Brd) (d : Bool) (r c : Int) : Fl := fun m _ => b.cell (dirSq d r c m).1 (dirSq d r c m).2
def seqU (b : Brd) (d : Bool) (r c : Int) : Nat := (upL (lineF b d r c) 0 16 (-1)).length
def seqD (b : Brd) (d : Bool) (r c : Int) : Nat := (dnL (lineF b d r c) 0 16 1).length
/-- the squares of the letters through a square, in a direction -/
def seqL (b : Brd) (d : Bool) (r c : Int) : List (Int × Int) := (List.range (seqU b d r c + 1 + seqD b d r c)).map fun j : Nat => dirSq d r c ((j : Int) - seqU b d r c)
theorem seqL_len (b : Brd) (d : Bool) (r c : Int) : (seqL b d r c).length = seqU b d r c + 1 + seqD b d r c := by simp [seqL]
theorem line_in {b : Brd} {n : Nat} (h : b.Good n) {d : Bool} {r c m : Int} (hi : b.inB r c = true) (hf : fullC (lineF b d r c m 0) = true) : -15 ≤ m ∧ m ≤ 15 := by
  have h1 := h.inB.1 hi
  have h2 := h.inB.1 (h.full_in hf)
  have h3 := h.hi
  unfold dirSq at h2
  cases d <;> simp only [if_true, if_false, Bool.false_eq_true] at h2 <;> omega
theorem line_mid {b : Brd} {d : Bool} {r c : Int} (h : fullC (b.cell r c) = true) : fullC (lineF b d r c 0 0) = true := by
  unfold lineF dirSq
  cases d
  · simpa using h
  · simpa using h
theorem seqU_le {b : Brd} {n : Nat} (h : b.Good n) {d : Bool} {r c : Int} (hi : b.inB r c = true) : seqU b d r c ≤ 15 := by
  by_cases h0 : 15 < seqU b d r c
  · have h1 := (upL_at (F := lineF b d r c) (c := 0) 16 (-1) 15 h0).2
    have := line_in h hi h1
    omega
  · omega
theorem seqD_le {b : Brd} {n : Nat} (h : b.Good n) {d : Bool} {r c : Int} (hi : b.inB r c = true) : seqD b d r c ≤ 15 := by
  by_cases h0 : 15 < seqD b d r c
  · have h1 := (dnL_at (F := lineF b d r c) (c := 0) 16 1 15 h0).2
    have := line_in h hi h1
    omega
  · omega
/-- the letters lie just on the squares of the sequence -/
theorem seq_lo {b : Brd} {d : Bool} {r c : Int} {j : Nat} (h : j < seqU b d r c) : fullC (lineF b d r c (-1 - j) 0) = true := (upL_at (F := lineF b d r c) (c := 0) 16 (-1) j h).2
theorem seq_hi {b : Brd} {d : Bool} {r c : Int} {j : Nat} (h : j < seqD b d r c) : fullC (lineF b d r c (1 + j) 0) = true := (dnL_at (F := lineF b d r c) (c := 0) 16 1 j h).2
theorem seq_before {b : Brd} {d : Bool} {r c : Int} (h : seqU b d r c ≤ 15) : fullC (lineF b d r c (-1 - seqU b d r c) 0) = false := upL_end (F := lineF b d r c) (c := 0) 16 (-1) (Nat.lt_succ_of_le h)
theorem seq_behind {b : Brd} {d : Bool} {r c : Int} (h : seqD b d r c ≤ 15) : fullC (lineF b d r c (1 + seqD b d r c) 0) = false := dnL_end (F := lineF b d r c) (c := 0) 16 1 (Nat.lt_succ_of_le h)
theorem take_range {α : Type} (f : Nat → α) {n k : Nat} (h : k < n) : ((List.range n).map f).take (k + 1) = ((List.range n).map f).take k ++ [f k] := by
  rw [List.take_succ_eq_append_getElem (by simpa using h)]
  simp
/-- squares in a row of the call's own -/
def SqsPost (w : World) (xs : List (Int × Int)) (e : Ending) (w' : World) : Prop :=
  ∃ g cap, e = .returned (.slice (some ⟨g, 0, none⟩) xs.length cap) ∧ w'.ownsRow w.heap.size 73 2 (.slice (some ⟨g, 0, none⟩) xs.length cap) xs.length (xs.flatMap Sq.enc) ∧ Below w.heap.size w w'

set_option maxRecDepth 100000 in
set_option maxHeartbeats 8000000 in
theorem seq_across (b : Brd) (n : Nat) (r c : Int) (w : World) (hb0 : b.Good n) (hi : b.inB r c = true) (hf0 : fullC (b.cell r c) = true) :
    Calls Tryz.prog 241 #[.agg #[.int .i64 b.size, .string b.premium, .string b.cells], .agg #[.int .i64 r, .int .i64 c], dirV false] w (SqsPost w (seqL b false r c)) := by
  obtain ⟨i0, hi0, hi1, hi2, hi3⟩ := info_parts infoSq
  have hn15 := hb0.hi
  obtain ⟨⟨hr0, hr1⟩, hc0, hc1⟩ := hb0.inB.1 hi
  have hu15 := seqU_le hb0 (d := false) hi
  have hd15 := seqD_le hb0 (d := false) hi
  have HLO := Lib.hid (fun j (h : j < seqU b false r c) => seq_lo h)
  have HHI := Lib.hid (fun j (h : j < seqD b false r c) => seq_hi h)
  have HBE := Lib.hid (seq_before hu15)
  have HBH := Lib.hid (seq_behind hd15)
  have hmid : fullC (lineF b false r c 0 0) = true := line_mid hf0
  obtain ⟨f, hf⟩ : ∃ f : Int → UInt8, ∀ m, f m = lineF b false r c m 0 := ⟨_, fun _ => rfl⟩
  obtain ⟨sr, hsr⟩ : ∃ sr : Int → Int, ∀ m, sr m = (dirSq false r c m).1 := ⟨_, fun _ => rfl⟩
  obtain ⟨sc, hsc⟩ : ∃ sc : Int → Int, ∀ m, sc m = (dirSq false r c m).2 := ⟨_, fun _ => rfl⟩
  have HAC : Hid (∀ m W, -20 ≤ m ∧ m ≤ 20 → Calls Tryz.prog 346 #[.agg #[], .int .i64 r, .int .i64 c, .int .i64 m] W fun e w' => e = .returned (.agg #[.int .i64 (sr m), .int .i64 (sc m)]) ∧ Below W.heap.size W w') := Lib.hid (fun m W h => by rw [hsr, hsc]; exact rat_any r c m W (by omega))
  have HON : Hid (∀ m bv W, fullC (f m) = bv → Calls Tryz.prog 191 #[.agg #[.int .i64 b.size, .string b.premium, .string b.cells], .agg #[.int .i64 (sr m), .int .i64 (sc m)]] W fun e w' => e = .returned (.bool bv) ∧ Below W.heap.size W w') := Lib.hid (fun m bv W e => by rw [← e, hf, hsr, hsc]; exact on_any b n _ _ W hb0)
  have HSL : Hid (seqL b false r c = (List.range (seqU b false r c + 1 + seqD b false r c)).map fun j : Nat => (sr ((j : Int) - seqU b false r c), sc ((j : Int) - seqU b false r c))) := Lib.hid (List.map_congr_left fun j _ => by rw [hsr, hsc])
  simp only [← hf] at HLO HHI HBE HBH hmid
  have HMID := Lib.hid hmid
  rw [HSL.out]
  clear hb0 hi hf0 hf hsr hsc hmid HSL
  generalize seqU b false r c = u at *
  generalize seqD b false r c = d at *
  generalize hSQ : (List.range (u + 1 + d)).map (fun j : Nat => (sr ((j : Int) - u), sc ((j : Int) - u))) = SQ at *
  have HTK : Hid (∀ k, k < u + 1 + d → SQ.take (k + 1) = SQ.take k ++ [(sr ((k : Int) - u), sc ((k : Int) - u))]) := Lib.hid (fun k h => by
    rw [← hSQ]
    exact take_range (fun j : Nat => (sr ((j : Int) - u), sc ((j : Int) - u))) h)
  have HSLN : Hid (SQ.length = u + 1 + d) := Lib.hid (by rw [← hSQ]; simp)
  clear hSQ
  obtain ⟨w2, hw2⟩ : ∃ w2, w2 = (w.alloc (.cells #[.int .i64 b.size, .string b.premium, .string b.cells] 25)).alloc (.cells #[.int .i64 r, .int .i64 c] 73) := ⟨_, rfl⟩
  have hb : Below w.heap.size w w2 := by rw [hw2]; exact ((Below.refl _ _).alloc (Nat.le_refl _) _).alloc (by simp) _
  have VB : Hid (VarAt w2 w.heap.size 25 [.int .i64 b.size, .string b.premium, .string b.cells]) := by
    rw [hw2]
    exact Lib.hid ((VarAt.new w 25 [.int .i64 b.size, .string b.premium, .string b.cells]).kept ((Below.refl _ _).alloc (Nat.le_refl _) _))
  have VS : Hid (VarAt w2 (w.heap.size + 1) 73 [.int .i64 r, .int .i64 c]) := by
    rw [hw2]
    have := VarAt.new (w.alloc (.cells #[.int .i64 b.size, .string b.premium, .string b.cells] 25)) 73 [.int .i64 r, .int .i64 c]
    simp only [World.size_alloc] at this
    exact Lib.hid this
  have HW2 := Lib.hid hw2
  clear hw2
  rw [show dirV false = .iface 256 (.agg #[]) from rfl]
  go_enter Tryz.func241, Tryz.ntmps241
  go_upto_region 1 with fail
  rw [← HW2.out]
  clear HW2
  go_wp2_with fail
  go_loopw [7] (fun iv wr => ∃ (j : Nat) (m : Int), j ≤ u ∧ m + j = 0 ∧ iv = .int .i64 m ∧ Hid (VarAt wr w.heap.size 25 [.int .i64 b.size, .string b.premium, .string b.cells]) ∧ Hid (VarAt wr (w.heap.size + 1) 73 [.int .i64 r, .int .i64 c]) ∧ Below w.heap.size w wr) (fun iv _ => (intOf iv + 17).toNat)
  case atStart => exact ⟨0, 0, Nat.zero_le _, rfl, rfl, VB, VS, hb⟩
  case round =>
    clear VB VS hb
    obtain ⟨j, m, hj, hmj, rfl, VB, VS, hb⟩ := hrel
    by_cases hju : j < u
    · have h1 := HLO.out j hju
      rw [show -1 - (j : Int) = m - 1 from by omega] at h1
      have HBV := Lib.hid h1
      clear h1
      have wr1 : IntKind.i64.wrap (m - 1) = m - 1 := IntWalk.i64_in _ (by omega)
      go_upto_region 2 with fail
      have hd : Below wr.heap.size wr wr.drew := (Below.refl _ _).drew
      replace hb := hb.trans (hd.mono hb.size)
      replace VB := Lib.hid (VB.out.kept hd)
      replace VS := Lib.hid (VS.out.kept hd)
      clear hd
      go_region_held3 (fun w' => w'.cell? ⟨w.heap.size, 0, none⟩ = some (.int .i64 b.size) ∧ w'.cell? ⟨w.heap.size, 1, none⟩ = some (.string b.premium) ∧ w'.cell? ⟨w.heap.size, 2, none⟩ = some (.string b.cells) ∧ w'.cell? ⟨w.heap.size + 1, 0, none⟩ = some (.int .i64 r) ∧ w'.cell? ⟨w.heap.size + 1, 1, none⟩ = some (.int .i64 c))
        (exact ⟨VB.out.cell (i := 0) rfl, VB.out.cell (i := 1) rfl, VB.out.cell (i := 2) rfl, VS.out.cell (i := 0) rfl, VS.out.cell (i := 1) rfl⟩)
        (((first | (go_at_call 346; refine (HAC.out (m - 1) _ (by omega)).mono ?_; rintro e wq ⟨rfl, hd⟩) | (go_at_call 191; refine (HON.out (m - 1) true _ HBV.out).mono ?_; rintro e wq ⟨rfl, hd⟩)); replace VB := Lib.hid (VB.out.kept hd); replace VS := Lib.hid (VS.out.kept hd); replace hb := hb.trans (hd.mono hb.size); clear hd))
      clear HBV wr1
      go_wp2
      go_roundw
      case rel => exact ⟨j + 1, m - 1, by omega, by omega, by go_num, VB, VS, hb⟩
      case measure => simp [intOf]; omega
    · obtain rfl : j = u := by omega
      have h1 := HBE.out
      rw [show -1 - (j : Int) = m - 1 from by omega] at h1
      have HBV := Lib.hid h1
      clear h1
      have wr1 : IntKind.i64.wrap (m - 1) = m - 1 := IntWalk.i64_in _ (by omega)
      go_upto_region 2 with fail
      have hd : Below wr.heap.size wr wr.drew := (Below.refl _ _).drew
      replace hb := hb.trans (hd.mono hb.size)
      replace VB := Lib.hid (VB.out.kept hd)
      replace VS := Lib.hid (VS.out.kept hd)
      clear hd
      go_region_held3 (fun w' => w'.cell? ⟨w.heap.size, 0, none⟩ = some (.int .i64 b.size) ∧ w'.cell? ⟨w.heap.size, 1, none⟩ = some (.string b.premium) ∧ w'.cell? ⟨w.heap.size, 2, none⟩ = some (.string b.cells) ∧ w'.cell? ⟨w.heap.size + 1, 0, none⟩ = some (.int .i64 r) ∧ w'.cell? ⟨w.heap.size + 1, 1, none⟩ = some (.int .i64 c))
        (exact ⟨VB.out.cell (i := 0) rfl, VB.out.cell (i := 1) rfl, VB.out.cell (i := 2) rfl, VS.out.cell (i := 0) rfl, VS.out.cell (i := 1) rfl⟩)
        (((first | (go_at_call 346; refine (HAC.out (m - 1) _ (by omega)).mono ?_; rintro e wq ⟨rfl, hd⟩) | (go_at_call 191; refine (HON.out (m - 1) false _ HBV.out).mono ?_; rintro e wq ⟨rfl, hd⟩)); replace VB := Lib.hid (VB.out.kept hd); replace VS := Lib.hid (VS.out.kept hd); replace hb := hb.trans (hd.mono hb.size); clear hd))
      clear HBV wr1
      generalize wq = w5 at *
      have HO : Hid ((w5.alloc (.cells #[] 73)).ownsRow (w.heap.size + 2) 73 2 (.slice (some ⟨w5.heap.size, 0, none⟩) 0 0) 0 ((SQ.take 0).flatMap Sq.enc)) := Lib.hid (World.ownsRow_made (base := w.heap.size + 2) (e := 73) (size := 2) w5 #[] 0 (by have := VS.out.lt; omega) (by unfold maxLen; omega) rfl)
      have hd : Below w5.heap.size w5 (w5.alloc (.cells #[] 73)) := (Below.refl _ _).alloc (Nat.le_refl _) _
      replace hb := hb.trans (hd.mono hb.size)
      replace VB := Lib.hid (VB.out.kept hd)
      replace VS := Lib.hid (VS.out.kept hd)
      clear hd
      go_wp2_with fail
      go_loopw [8, 9] (fun ov iv wr => ∃ (k g1 cap : Nat) (x : Int), k ≤ j + 1 + d ∧ x + j = k ∧ iv = .int .i64 x ∧ ov = .slice (some ⟨g1, 0, none⟩) k cap ∧ Hid (wr.ownsRow (w.heap.size + 2) 73 2 (.slice (some ⟨g1, 0, none⟩) k cap) k ((SQ.take k).flatMap Sq.enc)) ∧ Hid (VarAt wr w.heap.size 25 [.int .i64 b.size, .string b.premium, .string b.cells]) ∧ Hid (VarAt wr (w.heap.size + 1) 73 [.int .i64 r, .int .i64 c]) ∧ Below w.heap.size w wr) (fun _ iv _ => (17 - intOf iv).toNat)
      case atStart => exact ⟨0, _, 0, m, Nat.zero_le _, by omega, rfl, rfl, HO, VB, VS, hb⟩
      case round =>
        clear VB VS hb HO hmj
        obtain ⟨k, g1, cap, x, hk, hxk, rfl, rfl, HO, VB, VS, hb⟩ := hrel
        by_cases hkl : k < j + 1 + d
        · have h1 : fullC (f x) = true := by
            by_cases h2 : k < j
            · have h3 := HLO.out (j - 1 - k) (by omega)
              rwa [show -1 - ((j - 1 - k : Nat) : Int) = x from by omega] at h3
            · by_cases h4 : k = j
              · rw [show x = 0 from by omega]
                exact HMID.out
              · have h3 := HHI.out (k - j - 1) (by omega)
                rwa [show 1 + ((k - j - 1 : Nat) : Int) = x from by omega] at h3
          have HBV := Lib.hid h1
          clear h1
          go_upto_region 6 with fail
          have hd : Below wr.heap.size wr wr.drew := (Below.refl _ _).drew
          replace hb := hb.trans (hd.mono hb.size)
          replace HO := Lib.hid (own_below HO.out hd)
          replace VB := Lib.hid (VB.out.kept hd)
          replace VS := Lib.hid (VS.out.kept hd)
          clear hd
          go_region_held3 (fun w' => w'.cell? ⟨w.heap.size, 0, none⟩ = some (.int .i64 b.size) ∧ w'.cell? ⟨w.heap.size, 1, none⟩ = some (.string b.premium) ∧ w'.cell? ⟨w.heap.size, 2, none⟩ = some (.string b.cells) ∧ w'.cell? ⟨w.heap.size + 1, 0, none⟩ = some (.int .i64 r) ∧ w'.cell? ⟨w.heap.size + 1, 1, none⟩ = some (.int .i64 c))
            (exact ⟨VB.out.cell (i := 0) rfl, VB.out.cell (i := 1) rfl, VB.out.cell (i := 2) rfl, VS.out.cell (i := 0) rfl, VS.out.cell (i := 1) rfl⟩)
            (((first | (go_at_call 346; refine (HAC.out x _ (by omega)).mono ?_; rintro e wq ⟨rfl, hd⟩) | (go_at_call 191; refine (HON.out x true _ HBV.out).mono ?_; rintro e wq ⟨rfl, hd⟩)); replace HO := Lib.hid (own_below HO.out hd); replace VB := Lib.hid (VB.out.kept hd); replace VS := Lib.hid (VS.out.kept hd); replace hb := hb.trans (hd.mono hb.size); clear hd))
          generalize wq = w6 at *
          clear HBV
          have HT : Hid (SQ.take (k + 1) = SQ.take k ++ [(sr x, sc x)]) := Lib.hid (by rw [HTK.out k hkl, show (k : Int) - j = x from by omega])
          have s0 := VS.out.cell (i := 0) rfl
          have s1 := VS.out.cell (i := 1) rfl
          go_wp2_with fail
          clear s0 s1
          refine (HAC.out x _ (by omega)).mono ?_
          rintro e w7 ⟨rfl, hd⟩
          replace hb := hb.trans (hd.mono hb.size)
          replace HO := Lib.hid (own_below HO.out hd)
          replace VB := Lib.hid (VB.out.kept hd)
          replace VS := Lib.hid (VS.out.kept hd)
          clear hd
          have hd : Below w7.heap.size w7 (w7.alloc (.cells #[.int .i64 (sr x), .int .i64 (sc x)] 73)) := (Below.refl _ _).alloc (Nat.le_refl _) _
          have KN := Lib.hid (new_sq w7 (sr x, sc x) 73)
          have hz4 := VS.out.lt
          replace hb := hb.trans (hd.mono hb.size)
          replace HO := Lib.hid (own_below HO.out hd)
          replace VB := Lib.hid (VB.out.kept hd)
          replace VS := Lib.hid (VS.out.kept hd)
          clear hd
          go_wp2_with (at_builtin; go_must (refine wpList_append_lies _ rfl (.tmp 35) (.tmp 43) 65 rfl (w.heap.size + 2) 73 i0 _ 2 16 Tryz.underlying65 hi0 hi1 hi2 hi3 rfl (by decide) _ k ((SQ.take k).flatMap Sq.enc) (by rfl) HO.out ⟨w7.heap.size, 0, none⟩ 1 1 (Sq.enc (sr x, sc x)) (by rfl) rfl KN.out (sq_one (sr x, sc x)) (by decide) ?c1 ?c2 ?c3 _ rfl ?_))
          case c1 => unfold maxLen; omega
          case c2 => omega
          case c3 => (first | omega | (simp only [World.size_alloc]; omega))
          intro g7 cap7 w8 hown hgr hwh hlt7
          have hb8 := hb.grown hgr hb.size (fun q e => by have := (HO.out.lt q e).1; omega)
          have HO8 : Hid (w8.ownsRow (w.heap.size + 2) 73 2 (.slice (some ⟨g7, 0, none⟩) (k + 1) cap7) (k + 1) ((SQ.take (k + 1)).flatMap Sq.enc)) := Lib.hid (by rw [HT.out, snoc_flat Sq.enc]; exact hown)
          have VB8 := Lib.hid (VB.out.grown hgr (own_ne HO.out (by omega)))
          have VS8 := Lib.hid (VS.out.grown hgr (own_ne HO.out (by omega)))
          clear hown hgr hwh KN HO hb VB VS HT
          go_wp2
          go_roundw
          case rel => exact ⟨k + 1, g7, cap7, x + 1, by omega, by omega, by go_num, by go_num, HO8, VB8, VS8, hb8⟩
          case measure => simp [intOf]; omega
        · have h1 : fullC (f x) = false := by
            have h3 := HBH.out
            rwa [show 1 + (d : Int) = x from by omega] at h3
          have HBV := Lib.hid h1
          clear h1
          go_upto_region 6 with fail
          have hd : Below wr.heap.size wr wr.drew := (Below.refl _ _).drew
          replace hb := hb.trans (hd.mono hb.size)
          replace HO := Lib.hid (own_below HO.out hd)
          replace VB := Lib.hid (VB.out.kept hd)
          replace VS := Lib.hid (VS.out.kept hd)
          clear hd
          go_region_held3 (fun w' => w'.cell? ⟨w.heap.size, 0, none⟩ = some (.int .i64 b.size) ∧ w'.cell? ⟨w.heap.size, 1, none⟩ = some (.string b.premium) ∧ w'.cell? ⟨w.heap.size, 2, none⟩ = some (.string b.cells) ∧ w'.cell? ⟨w.heap.size + 1, 0, none⟩ = some (.int .i64 r) ∧ w'.cell? ⟨w.heap.size + 1, 1, none⟩ = some (.int .i64 c))
            (exact ⟨VB.out.cell (i := 0) rfl, VB.out.cell (i := 1) rfl, VB.out.cell (i := 2) rfl, VS.out.cell (i := 0) rfl, VS.out.cell (i := 1) rfl⟩)
            (((first | (go_at_call 346; refine (HAC.out x _ (by omega)).mono ?_; rintro e wq ⟨rfl, hd⟩) | (go_at_call 191; refine (HON.out x false _ HBV.out).mono ?_; rintro e wq ⟨rfl, hd⟩)); replace HO := Lib.hid (own_below HO.out hd); replace VB := Lib.hid (VB.out.kept hd); replace VS := Lib.hid (VS.out.kept hd); replace hb := hb.trans (hd.mono hb.size); clear hd))
          generalize wq = w6 at *
          clear HBV
          have hO := HO.out
          rw [List.take_of_length_le (by rw [HSLN.out]; omega)] at hO
          have HON2 := Lib.hid hO
          have HL : Hid (SQ.length = k) := Lib.hid (by rw [HSLN.out]; omega)
          clear hO HO
          go_wp2
          go_ret
          exact ⟨g1, cap, by rw [HL.out]; rfl, by rw [HL.out]; exact own_mono HON2.out (by omega), hb⟩
set_option maxRecDepth 100000 in
set_option maxHeartbeats 8000000 in
theorem seq_down (b : Brd) (n : Nat) (r c : Int) (w : World) (hb0 : b.Good n) (hi : b.inB r c = true) (hf0 : fullC (b.cell r c) = true) :
    Calls Tryz.prog 241 #[.agg #[.int .i64 b.size, .string b.premium, .string b.cells], .agg #[.int .i64 r, .int .i64 c], dirV true] w (SqsPost w (seqL b true r c)) := by
  obtain ⟨i0, hi0, hi1, hi2, hi3⟩ := info_parts infoSq
  have hn15 := hb0.hi
  obtain ⟨⟨hr0, hr1⟩, hc0, hc1⟩ := hb0.inB.1 hi
  have hu15 := seqU_le hb0 (d := true) hi
  have hd15 := seqD_le hb0 (d := true) hi
  have HLO := Lib.hid (fun j (h : j < seqU b true r c) => seq_lo h)
  have HHI := Lib.hid (fun j (h : j < seqD b true r c) => seq_hi h)
  have HBE := Lib.hid (seq_before hu15)
  have HBH := Lib.hid (seq_behind hd15)
  have hmid : fullC (lineF b true r c 0 0) = true := line_mid hf0
  obtain ⟨f, hf⟩ : ∃ f : Int → UInt8, ∀ m, f m = lineF b true r c m 0 := ⟨_, fun _ => rfl⟩
  obtain ⟨sr, hsr⟩ : ∃ sr : Int → Int, ∀ m, sr m = (dirSq true r c m).1 := ⟨_, fun _ => rfl⟩
  obtain ⟨sc, hsc⟩ : ∃ sc : Int → Int, ∀ m, sc m = (dirSq true r c m).2 := ⟨_, fun _ => rfl⟩
  have HAC : Hid (∀ m W, -20 ≤ m ∧ m ≤ 20 → Calls Tryz.prog 344 #[.agg #[], .int .i64 r, .int .i64 c, .int .i64 m] W fun e w' => e = .returned (.agg #[.int .i64 (sr m), .int .i64 (sc m)]) ∧ Below W.heap.size W w') := Lib.hid (fun m W h => by rw [hsr, hsc]; exact dat_any r c m W (by omega))
  have HON : Hid (∀ m bv W, fullC (f m) = bv → Calls Tryz.prog 191 #[.agg #[.int .i64 b.size, .string b.premium, .string b.cells], .agg #[.int .i64 (sr m), .int .i64 (sc m)]] W fun e w' => e = .returned (.bool bv) ∧ Below W.heap.size W w') := Lib.hid (fun m bv W e => by rw [← e, hf, hsr, hsc]; exact on_any b n _ _ W hb0)
  have HSL : Hid (seqL b true r c = (List.range (seqU b true r c + 1 + seqD b true r c)).map fun j : Nat => (sr ((j : Int) - seqU b true r c), sc ((j : Int) - seqU b true r c))) := Lib.hid (List.map_congr_left fun j _ => by rw [hsr, hsc])
  simp only [← hf] at HLO HHI HBE HBH hmid
  have HMID := Lib.hid hmid
  rw [HSL.out]
  clear hb0 hi hf0 hf hsr hsc hmid HSL
  generalize seqU b true r c = u at *
  generalize seqD b true r c = d at *
  generalize hSQ : (List.range (u + 1 + d)).map (fun j : Nat => (sr ((j : Int) - u), sc ((j : Int) - u))) = SQ at *
  have HTK : Hid (∀ k, k < u + 1 + d → SQ.take (k + 1) = SQ.take k ++ [(sr ((k : Int) - u), sc ((k : Int) - u))]) := Lib.hid (fun k h => by
    rw [← hSQ]
    exact take_range (fun j : Nat => (sr ((j : Int) - u), sc ((j : Int) - u))) h)
  have HSLN : Hid (SQ.length = u + 1 + d) := Lib.hid (by rw [← hSQ]; simp)
  clear hSQ
  obtain ⟨w2, hw2⟩ : ∃ w2, w2 = (w.alloc (.cells #[.int .i64 b.size, .string b.premium, .string b.cells] 25)).alloc (.cells #[.int .i64 r, .int .i64 c] 73) := ⟨_, rfl⟩
  have hb : Below w.heap.size w w2 := by rw [hw2]; exact ((Below.refl _ _).alloc (Nat.le_refl _) _).alloc (by simp) _
  have VB : Hid (VarAt w2 w.heap.size 25 [.int .i64 b.size, .string b.premium, .string b.cells]) := by
    rw [hw2]
    exact Lib.hid ((VarAt.new w 25 [.int .i64 b.size, .string b.premium, .string b.cells]).kept ((Below.refl _ _).alloc (Nat.le_refl _) _))
  have VS : Hid (VarAt w2 (w.heap.size + 1) 73 [.int .i64 r, .int .i64 c]) := by
    rw [hw2]
    have := VarAt.new (w.alloc (.cells #[.int .i64 b.size, .string b.premium, .string b.cells] 25)) 73 [.int .i64 r, .int .i64 c]
    simp only [World.size_alloc] at this
    exact Lib.hid this
  have HW2 := Lib.hid hw2
  clear hw2
  rw [show dirV true = .iface 255 (.agg #[]) from rfl]
  go_enter Tryz.func241, Tryz.ntmps241
  go_upto_region 1 with fail
  rw [← HW2.out]
  clear HW2
  go_wp2_with fail
  go_loopw [7] (fun iv wr => ∃ (j : Nat) (m : Int), j ≤ u ∧ m + j = 0 ∧ iv = .int .i64 m ∧ Hid (VarAt wr w.heap.size 25 [.int .i64 b.size, .string b.premium, .string b.cells]) ∧ Hid (VarAt wr (w.heap.size + 1) 73 [.int .i64 r, .int .i64 c]) ∧ Below w.heap.size w wr) (fun iv _ => (intOf iv + 17).toNat)
  case atStart => exact ⟨0, 0, Nat.zero_le _, rfl, rfl, VB, VS, hb⟩
  case round =>
    clear VB VS hb
    obtain ⟨j, m, hj, hmj, rfl, VB, VS, hb⟩ := hrel
    by_cases hju : j < u
    · have h1 := HLO.out j hju
      rw [show -1 - (j : Int) = m - 1 from by omega] at h1
      have HBV := Lib.hid h1
      clear h1
      have wr1 : IntKind.i64.wrap (m - 1) = m - 1 := IntWalk.i64_in _ (by omega)
      go_upto_region 2 with fail
      have hd : Below wr.heap.size wr wr.drew := (Below.refl _ _).drew
      replace hb := hb.trans (hd.mono hb.size)
      replace VB := Lib.hid (VB.out.kept hd)
      replace VS := Lib.hid (VS.out.kept hd)
      clear hd
      go_region_held3 (fun w' => w'.cell? ⟨w.heap.size, 0, none⟩ = some (.int .i64 b.size) ∧ w'.cell? ⟨w.heap.size, 1, none⟩ = some (.string b.premium) ∧ w'.cell? ⟨w.heap.size, 2, none⟩ = some (.string b.cells) ∧ w'.cell? ⟨w.heap.size + 1, 0, none⟩ = some (.int .i64 r) ∧ w'.cell? ⟨w.heap.size + 1, 1, none⟩ = some (.int .i64 c))
        (exact ⟨VB.out.cell (i := 0) rfl, VB.out.cell (i := 1) rfl, VB.out.cell (i := 2) rfl, VS.out.cell (i := 0) rfl, VS.out.cell (i := 1) rfl⟩)
        (((first | (go_at_call 344; refine (HAC.out (m - 1) _ (by omega)).mono ?_; rintro e wq ⟨rfl, hd⟩) | (go_at_call 191; refine (HON.out (m - 1) true _ HBV.out).mono ?_; rintro e wq ⟨rfl, hd⟩)); replace VB := Lib.hid (VB.out.kept hd); replace VS := Lib.hid (VS.out.kept hd); replace hb := hb.trans (hd.mono hb.size); clear hd))
      clear HBV wr1
      go_wp2
      go_roundw
      case rel => exact ⟨j + 1, m - 1, by omega, by omega, by go_num, VB, VS, hb⟩
      case measure => simp [intOf]; omega
    · obtain rfl : j = u := by omega
      have h1 := HBE.out
      rw [show -1 - (j : Int) = m - 1 from by omega] at h1
      have HBV := Lib.hid h1
      clear h1
      have wr1 : IntKind.i64.wrap (m - 1) = m - 1 := IntWalk.i64_in _ (by omega)
      go_upto_region 2 with fail
      have hd : Below wr.heap.size wr wr.drew := (Below.refl _ _).drew
      replace hb := hb.trans (hd.mono hb.size)
      replace VB := Lib.hid (VB.out.kept hd)
      replace VS := Lib.hid (VS.out.kept hd)
      clear hd
      go_region_held3 (fun w' => w'.cell? ⟨w.heap.size, 0, none⟩ = some (.int .i64 b.size) ∧ w'.cell? ⟨w.heap.size, 1, none⟩ = some (.string b.premium) ∧ w'.cell? ⟨w.heap.size, 2, none⟩ = some (.string b.cells) ∧ w'.cell? ⟨w.heap.size + 1, 0, none⟩ = some (.int .i64 r) ∧ w'.cell? ⟨w.heap.size + 1, 1, none⟩ = some (.int .i64 c))
        (exact ⟨VB.out.cell (i := 0) rfl, VB.out.cell (i := 1) rfl, VB.out.cell (i := 2) rfl, VS.out.cell (i := 0) rfl, VS.out.cell (i := 1) rfl⟩)
        (((first | (go_at_call 344; refine (HAC.out (m - 1) _ (by omega)).mono ?_; rintro e wq ⟨rfl, hd⟩) | (go_at_call 191; refine (HON.out (m - 1) false _ HBV.out).mono ?_; rintro e wq ⟨rfl, hd⟩)); replace VB := Lib.hid (VB.out.kept hd); replace VS := Lib.hid (VS.out.kept hd); replace hb := hb.trans (hd.mono hb.size); clear hd))
      clear HBV wr1
      generalize wq = w5 at *
      have HO : Hid ((w5.alloc (.cells #[] 73)).ownsRow (w.heap.size + 2) 73 2 (.slice (some ⟨w5.heap.size, 0, none⟩) 0 0) 0 ((SQ.take 0).flatMap Sq.enc)) := Lib.hid (World.ownsRow_made (base := w.heap.size + 2) (e := 73) (size := 2) w5 #[] 0 (by have := VS.out.lt; omega) (by unfold maxLen; omega) rfl)
      have hd : Below w5.heap.size w5 (w5.alloc (.cells #[] 73)) := (Below.refl _ _).alloc (Nat.le_refl _) _
      replace hb := hb.trans (hd.mono hb.size)
      replace VB := Lib.hid (VB.out.kept hd)
      replace VS := Lib.hid (VS.out.kept hd)
      clear hd
      go_wp2_with fail
      go_loopw [8, 9] (fun ov iv wr => ∃ (k g1 cap : Nat) (x : Int), k ≤ j + 1 + d ∧ x + j = k ∧ iv = .int .i64 x ∧ ov = .slice (some ⟨g1, 0, none⟩) k cap ∧ Hid (wr.ownsRow (w.heap.size + 2) 73 2 (.slice (some ⟨g1, 0, none⟩) k cap) k ((SQ.take k).flatMap Sq.enc)) ∧ Hid (VarAt wr w.heap.size 25 [.int .i64 b.size, .string b.premium, .string b.cells]) ∧ Hid (VarAt wr (w.heap.size + 1) 73 [.int .i64 r, .int .i64 c]) ∧ Below w.heap.size w wr) (fun _ iv _ => (17 - intOf iv).toNat)
      case atStart => exact ⟨0, _, 0, m, Nat.zero_le _, by omega, rfl, rfl, HO, VB, VS, hb⟩
      case round =>
        clear VB VS hb HO hmj
        obtain ⟨k, g1, cap, x, hk, hxk, rfl, rfl, HO, VB, VS, hb⟩ := hrel
        by_cases hkl : k < j + 1 + d
        · have h1 : fullC (f x) = true := by
            by_cases h2 : k < j
            · have h3 := HLO.out (j - 1 - k) (by omega)
              rwa [show -1 - ((j - 1 - k : Nat) : Int) = x from by omega] at h3
            · by_cases h4 : k = j
              · rw [show x = 0 from by omega]
                exact HMID.out
              · have h3 := HHI.out (k - j - 1) (by omega)
                rwa [show 1 + ((k - j - 1 : Nat) : Int) = x from by omega] at h3
          have HBV := Lib.hid h1
          clear h1
          go_upto_region 6 with fail
          have hd : Below wr.heap.size wr wr.drew := (Below.refl _ _).drew
          replace hb := hb.trans (hd.mono hb.size)
          replace HO := Lib.hid (own_below HO.out hd)
          replace VB := Lib.hid (VB.out.kept hd)
          replace VS := Lib.hid (VS.out.kept hd)
          clear hd
          go_region_held3 (fun w' => w'.cell? ⟨w.heap.size, 0, none⟩ = some (.int .i64 b.size) ∧ w'.cell? ⟨w.heap.size, 1, none⟩ = some (.string b.premium) ∧ w'.cell? ⟨w.heap.size, 2, none⟩ = some (.string b.cells) ∧ w'.cell? ⟨w.heap.size + 1, 0, none⟩ = some (.int .i64 r) ∧ w'.cell? ⟨w.heap.size + 1, 1, none⟩ = some (.int .i64 c))
            (exact ⟨VB.out.cell (i := 0) rfl, VB.out.cell (i := 1) rfl, VB.out.cell (i := 2) rfl, VS.out.cell (i := 0) rfl, VS.out.cell (i := 1) rfl⟩)
            (((first | (go_at_call 344; refine (HAC.out x _ (by omega)).mono ?_; rintro e wq ⟨rfl, hd⟩) | (go_at_call 191; refine (HON.out x true _ HBV.out).mono ?_; rintro e wq ⟨rfl, hd⟩)); replace HO := Lib.hid (own_below HO.out hd); replace VB := Lib.hid (VB.out.kept hd); replace VS := Lib.hid (VS.out.kept hd); replace hb := hb.trans (hd.mono hb.size); clear hd))
          generalize wq = w6 at *
          clear HBV
          have HT : Hid (SQ.take (k + 1) = SQ.take k ++ [(sr x, sc x)]) := Lib.hid (by rw [HTK.out k hkl, show (k : Int) - j = x from by omega])
          have s0 := VS.out.cell (i := 0) rfl
          have s1 := VS.out.cell (i := 1) rfl
          go_wp2_with fail
          clear s0 s1
          refine (HAC.out x _ (by omega)).mono ?_
          rintro e w7 ⟨rfl, hd⟩
          replace hb := hb.trans (hd.mono hb.size)
          replace HO := Lib.hid (own_below HO.out hd)
          replace VB := Lib.hid (VB.out.kept hd)
          replace VS := Lib.hid (VS.out.kept hd)
          clear hd
          have hd : Below w7.heap.size w7 (w7.alloc (.cells #[.int .i64 (sr x), .int .i64 (sc x)] 73)) := (Below.refl _ _).alloc (Nat.le_refl _) _
          have KN := Lib.hid (new_sq w7 (sr x, sc x) 73)
          have hz4 := VS.out.lt
          replace hb := hb.trans (hd.mono hb.size)
          replace HO := Lib.hid (own_below HO.out hd)
          replace VB := Lib.hid (VB.out.kept hd)
          replace VS := Lib.hid (VS.out.kept hd)
          clear hd
          go_wp2_with (at_builtin; go_must (refine wpList_append_lies _ rfl (.tmp 35) (.tmp 43) 65 rfl (w.heap.size + 2) 73 i0 _ 2 16 Tryz.underlying65 hi0 hi1 hi2 hi3 rfl (by decide) _ k ((SQ.take k).flatMap Sq.enc) (by rfl) HO.out ⟨w7.heap.size, 0, none⟩ 1 1 (Sq.enc (sr x, sc x)) (by rfl) rfl KN.out (sq_one (sr x, sc x)) (by decide) ?c1 ?c2 ?c3 _ rfl ?_))
          case c1 => unfold maxLen; omega
          case c2 => omega
          case c3 => (first | omega | (simp only [World.size_alloc]; omega))
          intro g7 cap7 w8 hown hgr hwh hlt7
          have hb8 := hb.grown hgr hb.size (fun q e => by have := (HO.out.lt q e).1; omega)
          have HO8 : Hid (w8.ownsRow (w.heap.size + 2) 73 2 (.slice (some ⟨g7, 0, none⟩) (k + 1) cap7) (k + 1) ((SQ.take (k + 1)).flatMap Sq.enc)) := Lib.hid (by rw [HT.out, snoc_flat Sq.enc]; exact hown)
          have VB8 := Lib.hid (VB.out.grown hgr (own_ne HO.out (by omega)))
          have VS8 := Lib.hid (VS.out.grown hgr (own_ne HO.out (by omega)))
          clear hown hgr hwh KN HO hb VB VS HT
          go_wp2
          go_roundw
          case rel => exact ⟨k + 1, g7, cap7, x + 1, by omega, by omega, by go_num, by go_num, HO8, VB8, VS8, hb8⟩
          case measure => simp [intOf]; omega
        · have h1 : fullC (f x) = false := by
            have h3 := HBH.out
            rwa [show 1 + (d : Int) = x from by omega] at h3
          have HBV := Lib.hid h1
          clear h1
          go_upto_region 6 with fail
          have hd : Below wr.heap.size wr wr.drew := (Below.refl _ _).drew
          replace hb := hb.trans (hd.mono hb.size)
          replace HO := Lib.hid (own_below HO.out hd)
          replace VB := Lib.hid (VB.out.kept hd)
          replace VS := Lib.hid (VS.out.kept hd)
          clear hd
          go_region_held3 (fun w' => w'.cell? ⟨w.heap.size, 0, none⟩ = some (.int .i64 b.size) ∧ w'.cell? ⟨w.heap.size, 1, none⟩ = some (.string b.premium) ∧ w'.cell? ⟨w.heap.size, 2, none⟩ = some (.string b.cells) ∧ w'.cell? ⟨w.heap.size + 1, 0, none⟩ = some (.int .i64 r) ∧ w'.cell? ⟨w.heap.size + 1, 1, none⟩ = some (.int .i64 c))
            (exact ⟨VB.out.cell (i := 0) rfl, VB.out.cell (i := 1) rfl, VB.out.cell (i := 2) rfl, VS.out.cell (i := 0) rfl, VS.out.cell (i := 1) rfl⟩)
            (((first | (go_at_call 344; refine (HAC.out x _ (by omega)).mono ?_; rintro e wq ⟨rfl, hd⟩) | (go_at_call 191; refine (HON.out x false _ HBV.out).mono ?_; rintro e wq ⟨rfl, hd⟩)); replace HO := Lib.hid (own_below HO.out hd); replace VB := Lib.hid (VB.out.kept hd); replace VS := Lib.hid (VS.out.kept hd); replace hb := hb.trans (hd.mono hb.size); clear hd))
          generalize wq = w6 at *
          clear HBV
          have hO := HO.out
          rw [List.take_of_length_le (by rw [HSLN.out]; omega)] at hO
          have HON2 := Lib.hid hO
          have HL : Hid (SQ.length = k) := Lib.hid (by rw [HSLN.out]; omega)
          clear hO HO
          go_wp2
          go_ret
          exact ⟨g1, cap, by rw [HL.out]; rfl, by rw [HL.out]; exact own_mono HON2.out (by omega), hb⟩
theorem sequence_any (b : Brd) (n : Nat) (d : Bool) (r c : Int) (w : World) (hb0 : b.Good n) (hi : b.inB r c = true) (hf0 : fullC (b.cell r c) = true) :
    Calls Tryz.prog 241 #[.agg #[.int .i64 b.size, .string b.premium, .string b.cells], .agg #[.int .i64 r, .int .i64 c], dirV d] w (SqsPost w (seqL b d r c)) := by
  cases d
  · exact seq_across b n r c w hb0 hi hf0
  · exact seq_down b n r c w hb0 hi hf0
end Go.Proofs.YtjdcdhhbgijaoaaGreatDoor

namespace Go.Proofs.YtjdcdhhbgijaoaaGreatDoor
open Go.ChangeShapes Go.WideShapes Go.ChangeAt Go.RowKit Go.Sort

/-- the squares of the word across, at an offset -/
def crossS (b : Brd) (p : Ply) (i : Nat) : List (Int × Int) := seqL (b.made p) (!p.down) (p.sr i) (p.sc i)
def crossTo (b : Brd) (p : Ply) (is : List Nat) : List Nat := is.filter fun i => decide (2 ≤ (crossS b p i).length)
/-- an offset, and where the squares of its word across lie -/
structure Ent where
  i : Nat
  g : Nat
  cap : Nat
def Ent.enc (sq : Nat → List (Int × Int)) (e : Ent) : List Value := [.slice (some ⟨e.g, 0, none⟩) (sq e.i).length e.cap]
theorem Ent.enc_len (sq : Nat → List (Int × Int)) (e : Ent) : (Ent.enc sq e).length = 1 := rfl
theorem ent_one (sq : Nat → List (Int × Int)) (e : Ent) : ∀ u ∈ Ent.enc sq e, u.oneCell' = true := by
  intro u hu
  simp only [Ent.enc, List.mem_cons, List.not_mem_nil, or_false] at hu
  rw [hu]; rfl
theorem new_ent (w : World) (sq : Nat → List (Int × Int)) (e : Ent) (t : TypeId) : ∀ j u, (Ent.enc sq e)[j]? = some u → (w.alloc (.cells #[.slice (some ⟨e.g, 0, none⟩) (sq e.i).length e.cap] t)).cell? ((⟨w.heap.size, 0, none⟩ : Addr).add j) = some u := by
  intro j u hu
  rw [Go.Addr.add_lit, Nat.zero_add]
  match j, hu with
  | 0, hu =>
    simp only [Ent.enc, List.getElem?_cons_zero, Option.some.injEq] at hu
    subst hu
    exact cell_new0 w _ t rfl
  | j + 1, hu => simp [Ent.enc] at hu
theorem infoSqs : (Tryz.prog.info? 65).map (fun i => (i.zero, i.size, i.bytes)) = some (some (.slice none 0 0), 1, 24) := by kernel_rfl
/-- the rows of the words' squares -/
def EntsAt (w : World) (base : Nat) (sq : Nat → List (Int × Int)) (es : List Ent) : Prop :=
  ∀ e ∈ es, w.ownsRow base 73 2 (.slice (some ⟨e.g, 0, none⟩) (sq e.i).length e.cap) (sq e.i).length ((sq e.i).flatMap Sq.enc)
theorem EntsAt.kept {w w' : World} {base : Nat} {sq : Nat → List (Int × Int)} {es : List Ent} (h : EntsAt w base sq es) (hb : Below w.heap.size w w') : EntsAt w' base sq es := fun e he => own_below (h e he) hb
theorem EntsAt.grown {w w' : World} {base : Nat} {sq : Nat → List (Int × Int)} {es : List Ent} (h : EntsAt w base sq es) {g : Nat} (hg : w.grownBy w' (some g)) (hne : ∀ e ∈ es, e.g ≠ g) : EntsAt w' base sq es := fun e he =>
  (h e he).kept hg (.inr (by simp [Value.ownBlock]; exact hne e he))
theorem EntsAt.mono {w : World} {base base' : Nat} {sq : Nat → List (Int × Int)} {es : List Ent} (h : EntsAt w base sq es) (hb : base' ≤ base) : EntsAt w base' sq es := fun e he => own_mono (h e he) hb
theorem EntsAt.snoc {w : World} {base : Nat} {sq : Nat → List (Int × Int)} {es : List Ent} (h : EntsAt w base sq es) {e : Ent} (he : w.ownsRow base 73 2 (.slice (some ⟨e.g, 0, none⟩) (sq e.i).length e.cap) (sq e.i).length ((sq e.i).flatMap Sq.enc)) : EntsAt w base sq (es ++ [e]) := by
  intro x hx
  rcases List.mem_append.1 hx with h1 | h1
  · exact h x h1
  · rw [List.mem_singleton.1 h1]; exact he
theorem EntsAt.lt {w : World} {base : Nat} {sq : Nat → List (Int × Int)} {es : List Ent} (h : EntsAt w base sq es) : ∀ e ∈ es, e.g < w.heap.size := fun e he => ((h e he).lt e.g rfl).2
/-- what crossings returns -/
def CrossPost (sq : Nat → List (Int × Int)) (sqr : Nat → Int × Int) (is : List Nat) (w : World) (e : Ending) (w' : World) : Prop :=
  ∃ (es : List Ent) (g1 c1 g2 c2 : Nat), es.map Ent.i = is ∧ e = .returned (.tuple #[.slice (some ⟨g1, 0, none⟩) es.length c1, .slice (some ⟨g2, 0, none⟩) es.length c2]) ∧
    w'.ownsRow w.heap.size 73 2 (.slice (some ⟨g1, 0, none⟩) es.length c1) es.length ((es.map fun e => sqr e.i).flatMap Sq.enc) ∧
    w'.ownsRow w.heap.size 65 1 (.slice (some ⟨g2, 0, none⟩) es.length c2) es.length (es.flatMap (Ent.enc sq)) ∧ EntsAt w' w.heap.size sq es ∧ Below w.heap.size w w'
theorem row_sq {w : World} {base gf cap : Nat} {xs : List (Int × Int)} {n : Nat} (h : w.ownsRow base 73 2 (.slice (some ⟨gf, 0, none⟩) n cap) n (xs.flatMap Sq.enc)) {k : Nat} (hk : k < xs.length) :
    w.cell? ⟨gf, k * 2, none⟩ = some (.int .i64 xs[k].1) ∧ w.cell? ⟨gf, k * 2 + 1, none⟩ = some (.int .i64 xs[k].2) := by
  have h0 := own_news0 h (k * 2) (.int .i64 xs[k].1) (by
    have := flatMap_get (enc := Sq.enc) (sz := 2) Sq.enc_len xs hk (j := 0) (by omega)
    rw [Nat.add_zero] at this
    rw [this]; rfl)
  have h1 := own_news0 h (k * 2 + 1) (.int .i64 xs[k].2) (by
    have := flatMap_get (enc := Sq.enc) (sz := 2) Sq.enc_len xs hk (j := 1) (by omega)
    rw [this]; rfl)
  rw [Go.Addr.add_lit, Nat.zero_add] at h0 h1
  exact ⟨h0, h1⟩
theorem filter_snoc {p : Nat → Bool} {l : List Nat} {i : Nat} : (l ++ [i]).filter p = l.filter p ++ if p i then [i] else [] := by
  rw [List.filter_append]
  congr 1
  simp only [List.filter_cons, List.filter_nil]
/-- on the board after a play its own squares have letters -/
theorem PGood.made_full {b : Brd} {p : Ply} {n : Nat} (h : PGood b p n) {k : Nat} (hk : k < p.word.size) : fullC ((b.made p).cell (p.sr k) (p.sc k)) = true ∧ (b.made p).inB (p.sr k) (p.sc k) = true := by
  have hi : (b.made p).inB (p.sr k) (p.sc k) = true := by
    rw [h.made_good.inB]
    exact h.sq_in hk
  refine ⟨?_, hi⟩
  rw [h.made_good.full_eq hi]
  have e : (b.made p).cell (p.sr k) (p.sc k) = p.word[k] := by
    rw [h.made_good.sq p k, show (b.made p).view p p.r (p.c + k) = _ from h.made_in hk, getD_byt hk]
  rw [e]
  have hl := List.all_eq_true.1 h.letters p.word[k] (by rw [← bytes_get p.word k hk]; exact List.getElem_mem _)
  rw [bne_iff_ne]
  intro e2
  rw [e2] at hl
  revert hl
  decide
set_option maxRecDepth 100000 in
set_option maxHeartbeats 8000000 in
theorem cross_down (b : Brd) (r c : Int) (s : ByteArray) (n : Nat) (w : World) (hp : PGood b ⟨r, c, true, s⟩ n) :
    Calls Tryz.prog 176 #[.agg #[.int .i64 b.size, .string b.premium, .string b.cells], .agg #[.int .i64 r, .int .i64 c, .bool true, .string s]] w (CrossPost (crossS b ⟨r, c, true, s⟩) (sqOf ⟨r, c, true, s⟩) (crossTo b ⟨r, c, true, s⟩ (b.fresh ⟨r, c, true, s⟩)) w) := by
  obtain ⟨i0, hi0, hi1, hi2, hi3⟩ := info_parts infoSq
  obtain ⟨j0, hj0, hj1, hj2, hj3⟩ := info_parts infoSqs
  have hs12 := hp.twelve
  obtain ⟨w2, hw2⟩ : ∃ w2, w2 = (w.alloc (.cells #[.int .i64 b.size, .string b.premium, .string b.cells] 25)).alloc (.cells #[.int .i64 r, .int .i64 c, .bool true, .string s] 30) := ⟨_, rfl⟩
  have hb : Below w.heap.size w w2 := by rw [hw2]; exact ((Below.refl _ _).alloc (Nat.le_refl _) _).alloc (by simp) _
  have VB : Hid (VarAt w2 w.heap.size 25 [.int .i64 b.size, .string b.premium, .string b.cells]) := by
    rw [hw2]
    exact Lib.hid ((VarAt.new w 25 [.int .i64 b.size, .string b.premium, .string b.cells]).kept ((Below.refl _ _).alloc (Nat.le_refl _) _))
  have VP : Hid (VarAt w2 (w.heap.size + 1) 30 [.int .i64 r, .int .i64 c, .bool true, .string s]) := by
    rw [hw2]
    have := VarAt.new (w.alloc (.cells #[.int .i64 b.size, .string b.premium, .string b.cells] 25)) 30 [.int .i64 r, .int .i64 c, .bool true, .string s]
    simp only [World.size_alloc] at this
    exact Lib.hid this
  have HMD : Hid (∀ W, Calls Tryz.prog 84 #[.agg #[.int .i64 b.size, .string b.premium, .string b.cells], .agg #[.int .i64 r, .int .i64 c, .bool true, .string s]] W fun e w' => e = .returned (.agg #[.int .i64 (b.made ⟨r, c, true, s⟩).size, .string (b.made ⟨r, c, true, s⟩).premium, .string (b.made ⟨r, c, true, s⟩).cells]) ∧ Below W.heap.size W w') := Lib.hid (fun W => made_any b ⟨r, c, true, s⟩ n W hp)
  have HNS : Hid (∀ W, Calls Tryz.prog 121 #[.agg #[.int .i64 b.size, .string b.premium, .string b.cells], .agg #[.int .i64 r, .int .i64 c, .bool true, .string s]] W (NewPost ⟨r, c, true, s⟩ (b.fresh ⟨r, c, true, s⟩) W)) := Lib.hid (fun W => newSquares_any b ⟨r, c, true, s⟩ n W hp)
  have HSEQ : Hid (∀ i, i < s.size → ∀ W, Calls Tryz.prog 241 #[.agg #[.int .i64 (b.made ⟨r, c, true, s⟩).size, .string (b.made ⟨r, c, true, s⟩).premium, .string (b.made ⟨r, c, true, s⟩).cells], .agg #[.int .i64 (sqOf ⟨r, c, true, s⟩ i).1, .int .i64 (sqOf ⟨r, c, true, s⟩ i).2], .iface 256 (.agg #[])] W (SqsPost W (crossS b ⟨r, c, true, s⟩ i))) := Lib.hid (fun i h W => sequence_any (b.made ⟨r, c, true, s⟩) n false _ _ W hp.made_good (hp.made_full h).2 (hp.made_full h).1)
  have HLT : Hid (∀ i ∈ b.fresh ⟨r, c, true, s⟩, i < s.size) := Lib.hid (fun i h => (freshL_lt h).1)
  have hfl : (b.fresh ⟨r, c, true, s⟩).length ≤ s.size := freshL_len _ _ _ _
  have HCT : Hid (∀ is i, crossTo b ⟨r, c, true, s⟩ (is ++ [i]) = crossTo b ⟨r, c, true, s⟩ is ++ if 2 ≤ (crossS b ⟨r, c, true, s⟩ i).length then [i] else []) := Lib.hid (fun is i => by
    unfold crossTo
    rw [filter_snoc]
    simp only [decide_eq_true_eq])
  have HC0 : Hid (crossTo b ⟨r, c, true, s⟩ [] = []) := Lib.hid rfl
  have HCL : Hid (∀ is, (crossTo b ⟨r, c, true, s⟩ is).length ≤ is.length) := Lib.hid (fun is => List.length_filter_le _ _)
  have HW2 := Lib.hid hw2
  clear hw2 hp
  generalize b.made ⟨r, c, true, s⟩ = af at *
  generalize b.fresh ⟨r, c, true, s⟩ = fr at *
  generalize crossTo b ⟨r, c, true, s⟩ = ct at *
  generalize crossS b ⟨r, c, true, s⟩ = sq at *
  generalize hsqr : sqOf ⟨r, c, true, s⟩ = sqr at *
  have HSQR := Lib.hid hsqr
  clear hsqr
  go_enter Tryz.func176, Tryz.ntmps176
  go_upto_region 1 with fail
  rw [← HW2.out]
  clear HW2
  have b0 := VB.out.cell (i := 0) rfl
  have b1 := VB.out.cell (i := 1) rfl
  have b2 := VB.out.cell (i := 2) rfl
  have p0 := VP.out.cell (i := 0) rfl
  have p1 := VP.out.cell (i := 1) rfl
  have p2 := VP.out.cell (i := 2) rfl
  have p3 := VP.out.cell (i := 3) rfl
  go_wp2_with fail
  refine (HMD.out _).mono ?_
  rintro e w3 ⟨rfl, hd⟩
  have hz3 := VP.out.lt
  have hz3' := hd.size
  replace hb := hb.trans (hd.mono hb.size)
  replace b0 := cell_kept b0 hd
  replace b1 := cell_kept b1 hd
  replace b2 := cell_kept b2 hd
  replace p0 := cell_kept p0 hd
  replace p1 := cell_kept p1 hd
  replace p2 := cell_kept p2 hd
  replace p3 := cell_kept p3 hd
  replace VB := Lib.hid (VB.out.kept hd)
  replace VP := Lib.hid (VP.out.kept hd)
  clear hd
  have VA := Lib.hid (VarAt.new w3 25 [.int .i64 af.size, .string af.premium, .string af.cells])
  have hd : Below w3.heap.size w3 (w3.alloc (.cells #[.int .i64 af.size, .string af.premium, .string af.cells] 25)) := (Below.refl _ _).alloc (Nat.le_refl _) _
  replace hb := hb.trans (hd.mono hb.size)
  replace b0 := cell_kept b0 hd
  replace b1 := cell_kept b1 hd
  replace b2 := cell_kept b2 hd
  replace p0 := cell_kept p0 hd
  replace p1 := cell_kept p1 hd
  replace p2 := cell_kept p2 hd
  replace p3 := cell_kept p3 hd
  replace VB := Lib.hid (VB.out.kept hd)
  replace VP := Lib.hid (VP.out.kept hd)
  clear hd
  have hza := VA.out.lt
  go_wp2_with fail
  refine (HNS.out _).mono ?_
  rintro e w5 ⟨gs, cs, gp, cpl, rfl, hne, hx0, _, hd⟩
  rw [HSQR.out] at hx0
  have HX := Lib.hid (own_mono hx0 (show w3.heap.size + 1 ≤ _ by omega))
  clear hx0 hne HSQR b0 b1 b2 p0 p1 p2 p3 VB
  replace hb := hb.trans (hd.mono hb.size)
  replace VP := Lib.hid (VP.out.kept hd)
  replace VA := Lib.hid (VA.out.kept hd)
  clear hd
  have hgs := (HX.out.lt gs rfl).2
  have hwz : w3.heap.size + 1 ≤ w5.heap.size := by have := VA.out.lt; omega
  have HO : Hid (((w5.alloc (.cells #[] 73)).alloc (.cells #[] 65)).ownsRow (w3.heap.size + 1) 73 2 (.slice (some ⟨w5.heap.size, 0, none⟩) 0 0) 0 []) := Lib.hid (own_below (World.ownsRow_made (base := w3.heap.size + 1) (e := 73) (size := 2) w5 #[] 0 (by omega) (by unfold maxLen; omega) rfl) ((Below.refl _ _).alloc (Nat.le_refl _) _))
  have HW : Hid (((w5.alloc (.cells #[] 73)).alloc (.cells #[] 65)).ownsRow (w3.heap.size + 1) 65 1 (.slice (some ⟨w5.heap.size + 1, 0, none⟩) 0 0) 0 []) := by
    have := World.ownsRow_made (base := w3.heap.size + 1) (e := 65) (size := 1) (w5.alloc (.cells #[] 73)) #[] 0 (by simp; omega) (by unfold maxLen; omega) rfl
    simp only [World.size_alloc] at this
    exact Lib.hid this
  have hd : Below w5.heap.size w5 ((w5.alloc (.cells #[] 73)).alloc (.cells #[] 65)) := ((Below.refl _ _).alloc (Nat.le_refl _) _).alloc (by simp) _
  replace hb := hb.trans (hd.mono hb.size)
  replace HX := Lib.hid (own_below HX.out hd)
  replace VP := Lib.hid (VP.out.kept hd)
  replace VA := Lib.hid (VA.out.kept hd)
  clear hd
  have HS : Hid (EntsAt ((w5.alloc (.cells #[] 73)).alloc (.cells #[] 65)) (w3.heap.size + 1) sq []) := Lib.hid (fun e he => by cases he)
  have hgs2 := (HX.out.lt gs rfl).2
  generalize hfrl : fr.length = m at *
  go_wp2_with fail
  go_loopw [9, 10, 27] (fun ov xv iv wr => ∃ (k : Nat) (es : List Ent) (ne g1 c1 g2 c2 : Nat), k ≤ m ∧ iv = .int .i64 k ∧ ov = .slice (some ⟨g1, 0, none⟩) ne c1 ∧ xv = .slice (some ⟨g2, 0, none⟩) ne c2 ∧ Hid (es.length = ne) ∧ Hid (es.map Ent.i = ct (fr.take k)) ∧ g1 ≠ g2 ∧ gs ≠ g1 ∧ gs ≠ g2 ∧ Hid (∀ e ∈ es, e.g ≠ g1 ∧ e.g ≠ g2) ∧ gs < wr.heap.size ∧ Hid (wr.ownsRow (w3.heap.size + 1) 73 2 (.slice (some ⟨g1, 0, none⟩) ne c1) ne ((es.map fun e => sqr e.i).flatMap Sq.enc)) ∧ Hid (wr.ownsRow (w3.heap.size + 1) 65 1 (.slice (some ⟨g2, 0, none⟩) ne c2) ne (es.flatMap (Ent.enc sq))) ∧ Hid (EntsAt wr (w3.heap.size + 1) sq es) ∧ Hid (wr.ownsRow (w3.heap.size + 1) 73 2 (.slice (some ⟨gs, 0, none⟩) m cs) m ((fr.map sqr).flatMap Sq.enc)) ∧ Hid (VarAt wr (w.heap.size + 1) 30 [.int .i64 r, .int .i64 c, .bool true, .string s]) ∧ Hid (VarAt wr w3.heap.size 25 [.int .i64 af.size, .string af.premium, .string af.cells]) ∧ Below w.heap.size w wr) (fun _ _ iv _ => m - (intOf iv).toNat)
  case atStart => exact ⟨0, [], 0, _, 0, _, 0, Nat.zero_le _, rfl, rfl, rfl, Lib.hid rfl, Lib.hid (by rw [List.take_zero, HC0.out]; rfl), by omega, by omega, by omega, Lib.hid (fun e he => by cases he), hgs2, HO, HW, HS, HX, VP, VA, hb⟩
  case round =>
    clear HO HW HS HX VP VA hb hgs hgs2 hza hwz
    obtain ⟨k, es, ne, g1, c1, g2, c2, hk, rfl, rfl, rfl, HNE, HES, h12, hs1, hs2, HEN, hgs, HO, HW, HS, HX, VP, VA, hb⟩ := hrel
    by_cases hkm : k < m
    · obtain ⟨i, hi⟩ : ∃ i, i = fr[k]'(by omega) := ⟨_, rfl⟩
      have hkf : k < fr.length := by omega
      have HTK := Lib.hid (take_nat hkf hi.symm)
      have his : i < s.size := by rw [hi]; exact HLT.out _ (List.getElem_mem _)
      have hrow := row_sq HX.out (k := k) (by rw [List.length_map]; exact hkf)
      rw [List.getElem_map, ← hi] at hrow
      obtain ⟨x0, x1⟩ := hrow
      have HCT2 := Lib.hid (HCT.out (fr.take k) i)
      have hne12 : ne ≤ 12 := by
        have h1 := HNE.out
        have h2 := congrArg List.length HES.out
        have h3 := HCL.out (fr.take k)
        rw [List.length_map] at h2
        have h4 : (fr.take k).length ≤ k := by rw [List.length_take]; omega
        omega
      clear hi hkf
      have HSQI := Lib.hid (HSEQ.out i his)
      go_upto_region 7 with fail
      clear x0 x1
      have VS := Lib.hid (VarAt.new wr 73 [.int .i64 (sqr i).1, .int .i64 (sqr i).2])
      have hd : Below wr.heap.size wr (wr.alloc (.cells #[.int .i64 (sqr i).1, .int .i64 (sqr i).2] 73)) := (Below.refl _ _).alloc (Nat.le_refl _) _
      replace HX := Lib.hid (own_below HX.out hd)
      replace HO := Lib.hid (own_below HO.out hd)
      replace HW := Lib.hid (own_below HW.out hd)
      replace HS := Lib.hid (HS.out.kept hd)
      replace VA := Lib.hid (VA.out.kept hd)
      replace VP := Lib.hid (VP.out.kept hd)
      replace hb := hb.trans (hd.mono hb.size)
      clear hd
      generalize wr.alloc (.cells #[.int .i64 (sqr i).1, .int .i64 (sqr i).2] 73) = w6 at *
      have hd : Below w6.heap.size w6 w6.drew := (Below.refl _ _).drew
      replace VS := Lib.hid (VS.out.kept hd)
      replace HX := Lib.hid (own_below HX.out hd)
      replace HO := Lib.hid (own_below HO.out hd)
      replace HW := Lib.hid (own_below HW.out hd)
      replace HS := Lib.hid (HS.out.kept hd)
      replace VA := Lib.hid (VA.out.kept hd)
      replace VP := Lib.hid (VP.out.kept hd)
      replace hb := hb.trans (hd.mono hb.size)
      clear hd
      go_region_held3 (fun w' => w'.cell? ⟨w3.heap.size, 0, none⟩ = some (.int .i64 af.size) ∧ w'.cell? ⟨w3.heap.size, 1, none⟩ = some (.string af.premium) ∧ w'.cell? ⟨w3.heap.size, 2, none⟩ = some (.string af.cells) ∧ w'.cell? ⟨wr.heap.size, 0, none⟩ = some (.int .i64 (sqr i).1) ∧ w'.cell? ⟨wr.heap.size, 1, none⟩ = some (.int .i64 (sqr i).2) ∧ w'.cell? ⟨w.heap.size + 1, 2, none⟩ = some (.bool true))
        (exact ⟨VA.out.cell (i := 0) rfl, VA.out.cell (i := 1) rfl, VA.out.cell (i := 2) rfl, VS.out.cell (i := 0) rfl, VS.out.cell (i := 1) rfl, VP.out.cell (i := 2) rfl⟩)
        ((first | (go_at_call 242; refine (directionOf_any true _).mono ?_; rintro e wq ⟨rfl, rfl⟩; rw [show dirV true = .iface 255 (.agg #[]) from rfl]) | (go_at_call 345; refine (dcross_any _).mono ?_; rintro e wq ⟨rfl, hd⟩; rw [show dirV false = .iface 256 (.agg #[]) from rfl]; replace HX := Lib.hid (own_below HX.out hd); replace HO := Lib.hid (own_below HO.out hd); replace HW := Lib.hid (own_below HW.out hd); replace HS := Lib.hid (HS.out.kept hd); replace VA := Lib.hid (VA.out.kept hd); replace VP := Lib.hid (VP.out.kept hd); replace VS := Lib.hid (VS.out.kept hd); replace hb := hb.trans (hd.mono hb.size); clear hd) | (go_at_call 241; refine (HSQI.out _).mono ?_; rintro e wq ⟨gq, cq, rfl, hq0, hd⟩; have HQ := Lib.hid (own_mono hq0 (show w3.heap.size + 1 ≤ _ from VA.out.lt)); have hq1 := (hq0.lt gq rfl).1; have hg1 := (HO.out.lt g1 rfl).2; have hg2 := (HW.out.lt g2 rfl).2; have hqq : gq ≠ g1 ∧ gq ≠ g2 := (by omega); clear hq0 hq1 hg1 hg2; replace HX := Lib.hid (own_below HX.out hd); replace HO := Lib.hid (own_below HO.out hd); replace HW := Lib.hid (own_below HW.out hd); replace HS := Lib.hid (HS.out.kept hd); replace VA := Lib.hid (VA.out.kept hd); replace VP := Lib.hid (VP.out.kept hd); replace VS := Lib.hid (VS.out.kept hd); replace hb := hb.trans (hd.mono hb.size); clear hd)))
      generalize wq = w7 at *
      by_cases h2 : 2 ≤ (sq i).length
      · have HES2 : Hid ((es ++ [(Ent.mk i gq cq)]).map Ent.i = ct (fr.take (k + 1))) := Lib.hid (by
          rw [HTK.out, HCT2.out, if_pos h2, List.map_append, HES.out]; rfl)
        have HMS : Hid ((es ++ [(Ent.mk i gq cq)]).map (fun e : Ent => sqr e.i) = es.map (fun e => sqr e.i) ++ [sqr i]) := Lib.hid (by rw [List.map_append]; rfl)
        have HNE2 : Hid ((es ++ [(Ent.mk i gq cq)] : List Ent).length = ne + 1) := Lib.hid (by rw [List.length_append, HNE.out]; rfl)
        have h2i : (2 : Int) ≤ ((sq i).length : Int) := by omega
        have s0 := VS.out.cell (i := 0) rfl
        have s1 := VS.out.cell (i := 1) rfl
        have hd : Below w7.heap.size w7 (w7.alloc (.cells #[.int .i64 (sqr i).1, .int .i64 (sqr i).2] 73)) := (Below.refl _ _).alloc (Nat.le_refl _) _
        have KN := Lib.hid (new_sq w7 (sqr i) 73)
        have hz7 := VA.out.lt
        replace HQ := Lib.hid (own_below HQ.out hd)
        replace VS := Lib.hid (VS.out.kept hd)
        have hgs7 := (HX.out.lt gs rfl).2
        replace HX := Lib.hid (own_below HX.out hd)
        replace HO := Lib.hid (own_below HO.out hd)
        replace HW := Lib.hid (own_below HW.out hd)
        replace HS := Lib.hid (HS.out.kept hd)
        replace VA := Lib.hid (VA.out.kept hd)
        replace VP := Lib.hid (VP.out.kept hd)
        replace hb := hb.trans (hd.mono hb.size)
        clear hd
        have hl2 := (HW.out.lt g2 rfl).2
        have hlx := (HX.out.lt gs rfl).2
        have hlq := (HQ.out.lt gq rfl).2
        have HEL := Lib.hid HS.out.lt
        go_wp2_with (at_builtin; go_must (refine wpList_append_lies _ rfl (.tmp 41) (.tmp 43) 65 rfl (w3.heap.size + 1) 73 i0 _ 2 16 Tryz.underlying65 hi0 hi1 hi2 hi3 rfl (by decide) _ ne ((es.map fun e => sqr e.i).flatMap Sq.enc) (by rfl) HO.out ⟨w7.heap.size, 0, none⟩ 1 1 (Sq.enc (sqr i)) (by rfl) rfl KN.out (sq_one (sqr i)) (by decide) ?c1 ?c2 ?c3 _ rfl ?_))
        case c1 => unfold maxLen; omega
        case c2 => omega
        case c3 => (first | omega | (simp only [World.size_alloc]; omega))
        intro g7 cap7 w8 hown hgr hwh hlt7
        have hn7 : g7 ≠ g2 ∧ gs ≠ g7 ∧ gq ≠ g7 := by
          rcases hwh with h | h
          · simp [Value.ownBlock] at h; omega
          · (first | omega | (simp only [World.size_alloc] at hl2 hlx hlq; omega))
        have HEN7 : Hid (∀ e ∈ es, e.g ≠ g7 ∧ e.g ≠ g2) := Lib.hid (fun e he => by
          have h1 := HEN.out e he
          have h3 := HEL.out e he
          refine ⟨?_, h1.2⟩
          rcases hwh with h | h
          · simp [Value.ownBlock] at h; omega
          · (first | omega | (simp only [World.size_alloc] at h3; omega)))
        have hb8 := hb.grown hgr hb.size (fun q e => by have := (HO.out.lt q e).1; omega)
        have HO8 : Hid (w8.ownsRow (w3.heap.size + 1) 73 2 (.slice (some ⟨g7, 0, none⟩) (ne + 1) cap7) (ne + 1) (((es ++ [(Ent.mk i gq cq)]).map fun e : Ent => sqr e.i).flatMap Sq.enc)) := Lib.hid (by
          rw [HMS.out, snoc_flat Sq.enc]; exact hown)
        replace HX := Lib.hid (HX.out.kept hgr (.inr (by simp [Value.ownBlock]; omega)))
        replace HW := Lib.hid (HW.out.kept hgr (.inr (by simp [Value.ownBlock]; omega)))
        replace HQ := Lib.hid (HQ.out.kept hgr (.inr (by simp [Value.ownBlock]; omega)))
        replace HS := Lib.hid (HS.out.grown (g := g1) hgr (fun e he => (HEN.out e he).1))
        replace VA := Lib.hid (VA.out.grown hgr (own_ne HO.out (by omega)))
        replace VP := Lib.hid (VP.out.grown hgr (own_ne HO.out (by omega)))
        have hz8 : w3.heap.size + 1 ≤ w8.heap.size := VA.out.lt
        clear hown hgr hwh KN HO hb HMS VS s0 s1 hl2 hlx hlq HEL
        have hb := hb8
        have HO := HO8
        clear hb8 HO8
        have hd : Below w8.heap.size w8 (w8.alloc (.cells #[.slice (some ⟨gq, 0, none⟩) (sq i).length cq] 65)) := (Below.refl _ _).alloc (Nat.le_refl _) _
        have KN := Lib.hid (new_ent w8 sq (Ent.mk i gq cq) 65)
        replace HQ := Lib.hid (own_below HQ.out hd)
        replace HX := Lib.hid (own_below HX.out hd)
        replace HO := Lib.hid (own_below HO.out hd)
        replace HW := Lib.hid (own_below HW.out hd)
        replace HS := Lib.hid (HS.out.kept hd)
        replace VA := Lib.hid (VA.out.kept hd)
        replace VP := Lib.hid (VP.out.kept hd)
        replace hb := hb.trans (hd.mono hb.size)
        clear hd
        have hl7 := (HO.out.lt g7 rfl).2
        have hlx := (HX.out.lt gs rfl).2
        have hlq := (HQ.out.lt gq rfl).2
        have HEL := Lib.hid HS.out.lt
        go_wp2_with (at_builtin; go_must (refine wpList_append_lies _ rfl (.tmp 45) (.tmp 47) 179 rfl (w3.heap.size + 1) 65 j0 _ 1 24 Tryz.underlying179 hj0 hj1 hj2 hj3 rfl (by decide) _ ne (es.flatMap (Ent.enc sq)) (by rfl) HW.out ⟨w8.heap.size, 0, none⟩ 1 1 (Ent.enc sq (Ent.mk i gq cq)) (by rfl) rfl KN.out (ent_one sq (Ent.mk i gq cq)) (by decide) ?c4 ?c5 ?c6 _ rfl ?_))
        case c4 => unfold maxLen; omega
        case c5 => omega
        case c6 => (first | omega | (simp only [World.size_alloc]; omega))
        intro g9 cap9 w9 hown hgr hwh hlt9
        have hn9 : g7 ≠ g9 ∧ gs ≠ g9 ∧ gq ≠ g9 := by
          rcases hwh with h | h
          · simp [Value.ownBlock] at h; omega
          · (first | omega | (simp only [World.size_alloc] at hl7 hlx hlq; omega))
        have HEN9 : Hid (∀ e ∈ es ++ [(Ent.mk i gq cq)], e.g ≠ g7 ∧ e.g ≠ g9) := Lib.hid (fun e he => by
          rcases List.mem_append.1 he with he | he
          · have h1 := HEN7.out e he
            have h3 := HEL.out e he
            refine ⟨h1.1, ?_⟩
            rcases hwh with h | h
            · simp [Value.ownBlock] at h; omega
            · (first | omega | (simp only [World.size_alloc] at h3; omega))
          · rw [List.mem_singleton.1 he]
            exact ⟨hn7.2.2, hn9.2.2⟩)
        have HW9 : Hid (w9.ownsRow (w3.heap.size + 1) 65 1 (.slice (some ⟨g9, 0, none⟩) (ne + 1) cap9) (ne + 1) ((es ++ [(Ent.mk i gq cq)]).flatMap (Ent.enc sq))) := Lib.hid (by
          rw [snoc_flat (Ent.enc sq)]; exact hown)
        have hb9 := hb.grown hgr hb.size (fun q e => by have := (HW.out.lt q e).1; omega)
        have HO9 := Lib.hid (HO.out.kept hgr (.inr (by simp [Value.ownBlock]; omega)))
        have HX9 := Lib.hid (HX.out.kept hgr (.inr (by simp [Value.ownBlock]; omega)))
        have HQ9 := Lib.hid (HQ.out.kept hgr (.inr (by simp [Value.ownBlock]; omega)))
        have HS9 := Lib.hid ((HS.out.grown (g := g2) hgr (fun e he => (HEN7.out e he).2)).snoc (e := (Ent.mk i gq cq)) HQ9.out)
        have VA9 := Lib.hid (VA.out.grown hgr (own_ne HW.out (by omega)))
        have VP9 := Lib.hid (VP.out.grown hgr (own_ne HW.out (by omega)))
        have hgs9 := (HX9.out.lt gs rfl).2
        clear hown hgr hwh KN HO HW HX HQ hb VA VP HS HEN HEN7 HEL HQ9
        go_wp2
        go_roundw
        case rel => exact ⟨k + 1, es ++ [(Ent.mk i gq cq)], ne + 1, g7, cap7, g9, cap9, by omega, by go_num, rfl, rfl, HNE2, HES2, hn9.1, hn7.2.1, hn9.2.1, HEN9, hgs9, HO9, HW9, HS9, HX9, VP9, VA9, hb9⟩
        case measure => simp [intOf]; omega
      · have HES2 : Hid (es.map Ent.i = ct (fr.take (k + 1))) := Lib.hid (by
          rw [HTK.out, HCT2.out, if_neg h2, List.append_nil, HES.out])
        have h2i : ¬ (2 : Int) ≤ ((sq i).length : Int) := by omega
        have hgs9 := (HX.out.lt gs rfl).2
        clear VS HQ
        go_wp2
        go_roundw
        case rel => exact ⟨k + 1, es, ne, g1, c1, g2, c2, by omega, by go_num, rfl, rfl, HNE, HES2, h12, hs1, hs2, HEN, hgs9, HO, HW, HS, HX, VP, VA, hb⟩
        case measure => simp [intOf]; omega
    · obtain rfl : k = m := by omega
      have hE := HES.out
      rw [List.take_of_length_le (by omega)] at hE
      have HE2 := Lib.hid hE
      clear hE HES
      go_wp2
      go_ret2
      exact ⟨es, g1, c1, g2, c2, HE2.out, by rw [HNE.out]; rfl, by rw [HNE.out]; exact own_mono HO.out (by omega), by rw [HNE.out]; exact own_mono HW.out (by omega), HS.out.mono (by omega), hb⟩
set_option maxRecDepth 100000 in
set_option maxHeartbeats 8000000 in
theorem cross_across (b : Brd) (r c : Int) (s : ByteArray) (n : Nat) (w : World) (hp : PGood b ⟨r, c, false, s⟩ n) :
    Calls Tryz.prog 176 #[.agg #[.int .i64 b.size, .string b.premium, .string b.cells], .agg #[.int .i64 r, .int .i64 c, .bool false, .string s]] w (CrossPost (crossS b ⟨r, c, false, s⟩) (sqOf ⟨r, c, false, s⟩) (crossTo b ⟨r, c, false, s⟩ (b.fresh ⟨r, c, false, s⟩)) w) := by
  obtain ⟨i0, hi0, hi1, hi2, hi3⟩ := info_parts infoSq
  obtain ⟨j0, hj0, hj1, hj2, hj3⟩ := info_parts infoSqs
  have hs12 := hp.twelve
  obtain ⟨w2, hw2⟩ : ∃ w2, w2 = (w.alloc (.cells #[.int .i64 b.size, .string b.premium, .string b.cells] 25)).alloc (.cells #[.int .i64 r, .int .i64 c, .bool false, .string s] 30) := ⟨_, rfl⟩
  have hb : Below w.heap.size w w2 := by rw [hw2]; exact ((Below.refl _ _).alloc (Nat.le_refl _) _).alloc (by simp) _
  have VB : Hid (VarAt w2 w.heap.size 25 [.int .i64 b.size, .string b.premium, .string b.cells]) := by
    rw [hw2]
    exact Lib.hid ((VarAt.new w 25 [.int .i64 b.size, .string b.premium, .string b.cells]).kept ((Below.refl _ _).alloc (Nat.le_refl _) _))
  have VP : Hid (VarAt w2 (w.heap.size + 1) 30 [.int .i64 r, .int .i64 c, .bool false, .string s]) := by
    rw [hw2]
    have := VarAt.new (w.alloc (.cells #[.int .i64 b.size, .string b.premium, .string b.cells] 25)) 30 [.int .i64 r, .int .i64 c, .bool false, .string s]
    simp only [World.size_alloc] at this
    exact Lib.hid this
  have HMD : Hid (∀ W, Calls Tryz.prog 84 #[.agg #[.int .i64 b.size, .string b.premium, .string b.cells], .agg #[.int .i64 r, .int .i64 c, .bool false, .string s]] W fun e w' => e = .returned (.agg #[.int .i64 (b.made ⟨r, c, false, s⟩).size, .string (b.made ⟨r, c, false, s⟩).premium, .string (b.made ⟨r, c, false, s⟩).cells]) ∧ Below W.heap.size W w') := Lib.hid (fun W => made_any b ⟨r, c, false, s⟩ n W hp)
  have HNS : Hid (∀ W, Calls Tryz.prog 121 #[.agg #[.int .i64 b.size, .string b.premium, .string b.cells], .agg #[.int .i64 r, .int .i64 c, .bool false, .string s]] W (NewPost ⟨r, c, false, s⟩ (b.fresh ⟨r, c, false, s⟩) W)) := Lib.hid (fun W => newSquares_any b ⟨r, c, false, s⟩ n W hp)
  have HSEQ : Hid (∀ i, i < s.size → ∀ W, Calls Tryz.prog 241 #[.agg #[.int .i64 (b.made ⟨r, c, false, s⟩).size, .string (b.made ⟨r, c, false, s⟩).premium, .string (b.made ⟨r, c, false, s⟩).cells], .agg #[.int .i64 (sqOf ⟨r, c, false, s⟩ i).1, .int .i64 (sqOf ⟨r, c, false, s⟩ i).2], .iface 255 (.agg #[])] W (SqsPost W (crossS b ⟨r, c, false, s⟩ i))) := Lib.hid (fun i h W => sequence_any (b.made ⟨r, c, false, s⟩) n true _ _ W hp.made_good (hp.made_full h).2 (hp.made_full h).1)
  have HLT : Hid (∀ i ∈ b.fresh ⟨r, c, false, s⟩, i < s.size) := Lib.hid (fun i h => (freshL_lt h).1)
  have hfl : (b.fresh ⟨r, c, false, s⟩).length ≤ s.size := freshL_len _ _ _ _
  have HCT : Hid (∀ is i, crossTo b ⟨r, c, false, s⟩ (is ++ [i]) = crossTo b ⟨r, c, false, s⟩ is ++ if 2 ≤ (crossS b ⟨r, c, false, s⟩ i).length then [i] else []) := Lib.hid (fun is i => by
    unfold crossTo
    rw [filter_snoc]
    simp only [decide_eq_true_eq])
  have HC0 : Hid (crossTo b ⟨r, c, false, s⟩ [] = []) := Lib.hid rfl
  have HCL : Hid (∀ is, (crossTo b ⟨r, c, false, s⟩ is).length ≤ is.length) := Lib.hid (fun is => List.length_filter_le _ _)
  have HW2 := Lib.hid hw2
  clear hw2 hp
  generalize b.made ⟨r, c, false, s⟩ = af at *
  generalize b.fresh ⟨r, c, false, s⟩ = fr at *
  generalize crossTo b ⟨r, c, false, s⟩ = ct at *
  generalize crossS b ⟨r, c, false, s⟩ = sq at *
  generalize hsqr : sqOf ⟨r, c, false, s⟩ = sqr at *
  have HSQR := Lib.hid hsqr
  clear hsqr
  go_enter Tryz.func176, Tryz.ntmps176
  go_upto_region 1 with fail
  rw [← HW2.out]
  clear HW2
  have b0 := VB.out.cell (i := 0) rfl
  have b1 := VB.out.cell (i := 1) rfl
  have b2 := VB.out.cell (i := 2) rfl
  have p0 := VP.out.cell (i := 0) rfl
  have p1 := VP.out.cell (i := 1) rfl
  have p2 := VP.out.cell (i := 2) rfl
  have p3 := VP.out.cell (i := 3) rfl
  go_wp2_with fail
  refine (HMD.out _).mono ?_
  rintro e w3 ⟨rfl, hd⟩
  have hz3 := VP.out.lt
  have hz3' := hd.size
  replace hb := hb.trans (hd.mono hb.size)
  replace b0 := cell_kept b0 hd
  replace b1 := cell_kept b1 hd
  replace b2 := cell_kept b2 hd
  replace p0 := cell_kept p0 hd
  replace p1 := cell_kept p1 hd
  replace p2 := cell_kept p2 hd
  replace p3 := cell_kept p3 hd
  replace VB := Lib.hid (VB.out.kept hd)
  replace VP := Lib.hid (VP.out.kept hd)
  clear hd
  have VA := Lib.hid (VarAt.new w3 25 [.int .i64 af.size, .string af.premium, .string af.cells])
  have hd : Below w3.heap.size w3 (w3.alloc (.cells #[.int .i64 af.size, .string af.premium, .string af.cells] 25)) := (Below.refl _ _).alloc (Nat.le_refl _) _
  replace hb := hb.trans (hd.mono hb.size)
  replace b0 := cell_kept b0 hd
  replace b1 := cell_kept b1 hd
  replace b2 := cell_kept b2 hd
  replace p0 := cell_kept p0 hd
  replace p1 := cell_kept p1 hd
  replace p2 := cell_kept p2 hd
  replace p3 := cell_kept p3 hd
  replace VB := Lib.hid (VB.out.kept hd)
  replace VP := Lib.hid (VP.out.kept hd)
  clear hd
  have hza := VA.out.lt
  go_wp2_with fail
  refine (HNS.out _).mono ?_
  rintro e w5 ⟨gs, cs, gp, cpl, rfl, hne, hx0, _, hd⟩
  rw [HSQR.out] at hx0
  have HX := Lib.hid (own_mono hx0 (show w3.heap.size + 1 ≤ _ by omega))
  clear hx0 hne HSQR b0 b1 b2 p0 p1 p2 p3 VB
  replace hb := hb.trans (hd.mono hb.size)
  replace VP := Lib.hid (VP.out.kept hd)
  replace VA := Lib.hid (VA.out.kept hd)
  clear hd
  have hgs := (HX.out.lt gs rfl).2
  have hwz : w3.heap.size + 1 ≤ w5.heap.size := by have := VA.out.lt; omega
  have HO : Hid (((w5.alloc (.cells #[] 73)).alloc (.cells #[] 65)).ownsRow (w3.heap.size + 1) 73 2 (.slice (some ⟨w5.heap.size, 0, none⟩) 0 0) 0 []) := Lib.hid (own_below (World.ownsRow_made (base := w3.heap.size + 1) (e := 73) (size := 2) w5 #[] 0 (by omega) (by unfold maxLen; omega) rfl) ((Below.refl _ _).alloc (Nat.le_refl _) _))
  have HW : Hid (((w5.alloc (.cells #[] 73)).alloc (.cells #[] 65)).ownsRow (w3.heap.size + 1) 65 1 (.slice (some ⟨w5.heap.size + 1, 0, none⟩) 0 0) 0 []) := by
    have := World.ownsRow_made (base := w3.heap.size + 1) (e := 65) (size := 1) (w5.alloc (.cells #[] 73)) #[] 0 (by simp; omega) (by unfold maxLen; omega) rfl
    simp only [World.size_alloc] at this
    exact Lib.hid this
  have hd : Below w5.heap.size w5 ((w5.alloc (.cells #[] 73)).alloc (.cells #[] 65)) := ((Below.refl _ _).alloc (Nat.le_refl _) _).alloc (by simp) _
  replace hb := hb.trans (hd.mono hb.size)
  replace HX := Lib.hid (own_below HX.out hd)
  replace VP := Lib.hid (VP.out.kept hd)
  replace VA := Lib.hid (VA.out.kept hd)
  clear hd
  have HS : Hid (EntsAt ((w5.alloc (.cells #[] 73)).alloc (.cells #[] 65)) (w3.heap.size + 1) sq []) := Lib.hid (fun e he => by cases he)
  have hgs2 := (HX.out.lt gs rfl).2
  generalize hfrl : fr.length = m at *
  go_wp2_with fail
  go_loopw [9, 10, 27] (fun ov xv iv wr => ∃ (k : Nat) (es : List Ent) (ne g1 c1 g2 c2 : Nat), k ≤ m ∧ iv = .int .i64 k ∧ ov = .slice (some ⟨g1, 0, none⟩) ne c1 ∧ xv = .slice (some ⟨g2, 0, none⟩) ne c2 ∧ Hid (es.length = ne) ∧ Hid (es.map Ent.i = ct (fr.take k)) ∧ g1 ≠ g2 ∧ gs ≠ g1 ∧ gs ≠ g2 ∧ Hid (∀ e ∈ es, e.g ≠ g1 ∧ e.g ≠ g2) ∧ gs < wr.heap.size ∧ Hid (wr.ownsRow (w3.heap.size + 1) 73 2 (.slice (some ⟨g1, 0, none⟩) ne c1) ne ((es.map fun e => sqr e.i).flatMap Sq.enc)) ∧ Hid (wr.ownsRow (w3.heap.size + 1) 65 1 (.slice (some ⟨g2, 0, none⟩) ne c2) ne (es.flatMap (Ent.enc sq))) ∧ Hid (EntsAt wr (w3.heap.size + 1) sq es) ∧ Hid (wr.ownsRow (w3.heap.size + 1) 73 2 (.slice (some ⟨gs, 0, none⟩) m cs) m ((fr.map sqr).flatMap Sq.enc)) ∧ Hid (VarAt wr (w.heap.size + 1) 30 [.int .i64 r, .int .i64 c, .bool false, .string s]) ∧ Hid (VarAt wr w3.heap.size 25 [.int .i64 af.size, .string af.premium, .string af.cells]) ∧ Below w.heap.size w wr) (fun _ _ iv _ => m - (intOf iv).toNat)
  case atStart => exact ⟨0, [], 0, _, 0, _, 0, Nat.zero_le _, rfl, rfl, rfl, Lib.hid rfl, Lib.hid (by rw [List.take_zero, HC0.out]; rfl), by omega, by omega, by omega, Lib.hid (fun e he => by cases he), hgs2, HO, HW, HS, HX, VP, VA, hb⟩
  case round =>
    clear HO HW HS HX VP VA hb hgs hgs2 hza hwz
    obtain ⟨k, es, ne, g1, c1, g2, c2, hk, rfl, rfl, rfl, HNE, HES, h12, hs1, hs2, HEN, hgs, HO, HW, HS, HX, VP, VA, hb⟩ := hrel
    by_cases hkm : k < m
    · obtain ⟨i, hi⟩ : ∃ i, i = fr[k]'(by omega) := ⟨_, rfl⟩
      have hkf : k < fr.length := by omega
      have HTK := Lib.hid (take_nat hkf hi.symm)
      have his : i < s.size := by rw [hi]; exact HLT.out _ (List.getElem_mem _)
      have hrow := row_sq HX.out (k := k) (by rw [List.length_map]; exact hkf)
      rw [List.getElem_map, ← hi] at hrow
      obtain ⟨x0, x1⟩ := hrow
      have HCT2 := Lib.hid (HCT.out (fr.take k) i)
      have hne12 : ne ≤ 12 := by
        have h1 := HNE.out
        have h2 := congrArg List.length HES.out
        have h3 := HCL.out (fr.take k)
        rw [List.length_map] at h2
        have h4 : (fr.take k).length ≤ k := by rw [List.length_take]; omega
        omega
      clear hi hkf
      have HSQI := Lib.hid (HSEQ.out i his)
      go_upto_region 7 with fail
      clear x0 x1
      have VS := Lib.hid (VarAt.new wr 73 [.int .i64 (sqr i).1, .int .i64 (sqr i).2])
      have hd : Below wr.heap.size wr (wr.alloc (.cells #[.int .i64 (sqr i).1, .int .i64 (sqr i).2] 73)) := (Below.refl _ _).alloc (Nat.le_refl _) _
      replace HX := Lib.hid (own_below HX.out hd)
      replace HO := Lib.hid (own_below HO.out hd)
      replace HW := Lib.hid (own_below HW.out hd)
      replace HS := Lib.hid (HS.out.kept hd)
      replace VA := Lib.hid (VA.out.kept hd)
      replace VP := Lib.hid (VP.out.kept hd)
      replace hb := hb.trans (hd.mono hb.size)
      clear hd
      generalize wr.alloc (.cells #[.int .i64 (sqr i).1, .int .i64 (sqr i).2] 73) = w6 at *
      have hd : Below w6.heap.size w6 w6.drew := (Below.refl _ _).drew
      replace VS := Lib.hid (VS.out.kept hd)
      replace HX := Lib.hid (own_below HX.out hd)
      replace HO := Lib.hid (own_below HO.out hd)
      replace HW := Lib.hid (own_below HW.out hd)
      replace HS := Lib.hid (HS.out.kept hd)
      replace VA := Lib.hid (VA.out.kept hd)
      replace VP := Lib.hid (VP.out.kept hd)
      replace hb := hb.trans (hd.mono hb.size)
      clear hd
      go_region_held3 (fun w' => w'.cell? ⟨w3.heap.size, 0, none⟩ = some (.int .i64 af.size) ∧ w'.cell? ⟨w3.heap.size, 1, none⟩ = some (.string af.premium) ∧ w'.cell? ⟨w3.heap.size, 2, none⟩ = some (.string af.cells) ∧ w'.cell? ⟨wr.heap.size, 0, none⟩ = some (.int .i64 (sqr i).1) ∧ w'.cell? ⟨wr.heap.size, 1, none⟩ = some (.int .i64 (sqr i).2) ∧ w'.cell? ⟨w.heap.size + 1, 2, none⟩ = some (.bool false))
        (exact ⟨VA.out.cell (i := 0) rfl, VA.out.cell (i := 1) rfl, VA.out.cell (i := 2) rfl, VS.out.cell (i := 0) rfl, VS.out.cell (i := 1) rfl, VP.out.cell (i := 2) rfl⟩)
        ((first | (go_at_call 242; refine (directionOf_any false _).mono ?_; rintro e wq ⟨rfl, rfl⟩; rw [show dirV false = .iface 256 (.agg #[]) from rfl]) | (go_at_call 347; refine (rcross_any _).mono ?_; rintro e wq ⟨rfl, hd⟩; rw [show dirV true = .iface 255 (.agg #[]) from rfl]; replace HX := Lib.hid (own_below HX.out hd); replace HO := Lib.hid (own_below HO.out hd); replace HW := Lib.hid (own_below HW.out hd); replace HS := Lib.hid (HS.out.kept hd); replace VA := Lib.hid (VA.out.kept hd); replace VP := Lib.hid (VP.out.kept hd); replace VS := Lib.hid (VS.out.kept hd); replace hb := hb.trans (hd.mono hb.size); clear hd) | (go_at_call 241; refine (HSQI.out _).mono ?_; rintro e wq ⟨gq, cq, rfl, hq0, hd⟩; have HQ := Lib.hid (own_mono hq0 (show w3.heap.size + 1 ≤ _ from VA.out.lt)); have hq1 := (hq0.lt gq rfl).1; have hg1 := (HO.out.lt g1 rfl).2; have hg2 := (HW.out.lt g2 rfl).2; have hqq : gq ≠ g1 ∧ gq ≠ g2 := (by omega); clear hq0 hq1 hg1 hg2; replace HX := Lib.hid (own_below HX.out hd); replace HO := Lib.hid (own_below HO.out hd); replace HW := Lib.hid (own_below HW.out hd); replace HS := Lib.hid (HS.out.kept hd); replace VA := Lib.hid (VA.out.kept hd); replace VP := Lib.hid (VP.out.kept hd); replace VS := Lib.hid (VS.out.kept hd); replace hb := hb.trans (hd.mono hb.size); clear hd)))
      generalize wq = w7 at *
      by_cases h2 : 2 ≤ (sq i).length
      · have HES2 : Hid ((es ++ [(Ent.mk i gq cq)]).map Ent.i = ct (fr.take (k + 1))) := Lib.hid (by
          rw [HTK.out, HCT2.out, if_pos h2, List.map_append, HES.out]; rfl)
        have HMS : Hid ((es ++ [(Ent.mk i gq cq)]).map (fun e : Ent => sqr e.i) = es.map (fun e => sqr e.i) ++ [sqr i]) := Lib.hid (by rw [List.map_append]; rfl)
        have HNE2 : Hid ((es ++ [(Ent.mk i gq cq)] : List Ent).length = ne + 1) := Lib.hid (by rw [List.length_append, HNE.out]; rfl)
        have h2i : (2 : Int) ≤ ((sq i).length : Int) := by omega
        have s0 := VS.out.cell (i := 0) rfl
        have s1 := VS.out.cell (i := 1) rfl
        have hd : Below w7.heap.size w7 (w7.alloc (.cells #[.int .i64 (sqr i).1, .int .i64 (sqr i).2] 73)) := (Below.refl _ _).alloc (Nat.le_refl _) _
        have KN := Lib.hid (new_sq w7 (sqr i) 73)
        have hz7 := VA.out.lt
        replace HQ := Lib.hid (own_below HQ.out hd)
        replace VS := Lib.hid (VS.out.kept hd)
        have hgs7 := (HX.out.lt gs rfl).2
        replace HX := Lib.hid (own_below HX.out hd)
        replace HO := Lib.hid (own_below HO.out hd)
        replace HW := Lib.hid (own_below HW.out hd)
        replace HS := Lib.hid (HS.out.kept hd)
        replace VA := Lib.hid (VA.out.kept hd)
        replace VP := Lib.hid (VP.out.kept hd)
        replace hb := hb.trans (hd.mono hb.size)
        clear hd
        have hl2 := (HW.out.lt g2 rfl).2
        have hlx := (HX.out.lt gs rfl).2
        have hlq := (HQ.out.lt gq rfl).2
        have HEL := Lib.hid HS.out.lt
        go_wp2_with (at_builtin; go_must (refine wpList_append_lies _ rfl (.tmp 41) (.tmp 43) 65 rfl (w3.heap.size + 1) 73 i0 _ 2 16 Tryz.underlying65 hi0 hi1 hi2 hi3 rfl (by decide) _ ne ((es.map fun e => sqr e.i).flatMap Sq.enc) (by rfl) HO.out ⟨w7.heap.size, 0, none⟩ 1 1 (Sq.enc (sqr i)) (by rfl) rfl KN.out (sq_one (sqr i)) (by decide) ?c1 ?c2 ?c3 _ rfl ?_))
        case c1 => unfold maxLen; omega
        case c2 => omega
        case c3 => (first | omega | (simp only [World.size_alloc]; omega))
        intro g7 cap7 w8 hown hgr hwh hlt7
        have hn7 : g7 ≠ g2 ∧ gs ≠ g7 ∧ gq ≠ g7 := by
          rcases hwh with h | h
          · simp [Value.ownBlock] at h; omega
          · (first | omega | (simp only [World.size_alloc] at hl2 hlx hlq; omega))
        have HEN7 : Hid (∀ e ∈ es, e.g ≠ g7 ∧ e.g ≠ g2) := Lib.hid (fun e he => by
          have h1 := HEN.out e he
          have h3 := HEL.out e he
          refine ⟨?_, h1.2⟩
          rcases hwh with h | h
          · simp [Value.ownBlock] at h; omega
          · (first | omega | (simp only [World.size_alloc] at h3; omega)))
        have hb8 := hb.grown hgr hb.size (fun q e => by have := (HO.out.lt q e).1; omega)
        have HO8 : Hid (w8.ownsRow (w3.heap.size + 1) 73 2 (.slice (some ⟨g7, 0, none⟩) (ne + 1) cap7) (ne + 1) (((es ++ [(Ent.mk i gq cq)]).map fun e : Ent => sqr e.i).flatMap Sq.enc)) := Lib.hid (by
          rw [HMS.out, snoc_flat Sq.enc]; exact hown)
        replace HX := Lib.hid (HX.out.kept hgr (.inr (by simp [Value.ownBlock]; omega)))
        replace HW := Lib.hid (HW.out.kept hgr (.inr (by simp [Value.ownBlock]; omega)))
        replace HQ := Lib.hid (HQ.out.kept hgr (.inr (by simp [Value.ownBlock]; omega)))
        replace HS := Lib.hid (HS.out.grown (g := g1) hgr (fun e he => (HEN.out e he).1))
        replace VA := Lib.hid (VA.out.grown hgr (own_ne HO.out (by omega)))
        replace VP := Lib.hid (VP.out.grown hgr (own_ne HO.out (by omega)))
        have hz8 : w3.heap.size + 1 ≤ w8.heap.size := VA.out.lt
        clear hown hgr hwh KN HO hb HMS VS s0 s1 hl2 hlx hlq HEL
        have hb := hb8
        have HO := HO8
        clear hb8 HO8
        have hd : Below w8.heap.size w8 (w8.alloc (.cells #[.slice (some ⟨gq, 0, none⟩) (sq i).length cq] 65)) := (Below.refl _ _).alloc (Nat.le_refl _) _
        have KN := Lib.hid (new_ent w8 sq (Ent.mk i gq cq) 65)
        replace HQ := Lib.hid (own_below HQ.out hd)
        replace HX := Lib.hid (own_below HX.out hd)
        replace HO := Lib.hid (own_below HO.out hd)
        replace HW := Lib.hid (own_below HW.out hd)
        replace HS := Lib.hid (HS.out.kept hd)
        replace VA := Lib.hid (VA.out.kept hd)
        replace VP := Lib.hid (VP.out.kept hd)
        replace hb := hb.trans (hd.mono hb.size)
        clear hd
        have hl7 := (HO.out.lt g7 rfl).2
        have hlx := (HX.out.lt gs rfl).2
        have hlq := (HQ.out.lt gq rfl).2
        have HEL := Lib.hid HS.out.lt
        go_wp2_with (at_builtin; go_must (refine wpList_append_lies _ rfl (.tmp 45) (.tmp 47) 179 rfl (w3.heap.size + 1) 65 j0 _ 1 24 Tryz.underlying179 hj0 hj1 hj2 hj3 rfl (by decide) _ ne (es.flatMap (Ent.enc sq)) (by rfl) HW.out ⟨w8.heap.size, 0, none⟩ 1 1 (Ent.enc sq (Ent.mk i gq cq)) (by rfl) rfl KN.out (ent_one sq (Ent.mk i gq cq)) (by decide) ?c4 ?c5 ?c6 _ rfl ?_))
        case c4 => unfold maxLen; omega
        case c5 => omega
        case c6 => (first | omega | (simp only [World.size_alloc]; omega))
        intro g9 cap9 w9 hown hgr hwh hlt9
        have hn9 : g7 ≠ g9 ∧ gs ≠ g9 ∧ gq ≠ g9 := by
          rcases hwh with h | h
          · simp [Value.ownBlock] at h; omega
          · (first | omega | (simp only [World.size_alloc] at hl7 hlx hlq; omega))
        have HEN9 : Hid (∀ e ∈ es ++ [(Ent.mk i gq cq)], e.g ≠ g7 ∧ e.g ≠ g9) := Lib.hid (fun e he => by
          rcases List.mem_append.1 he with he | he
          · have h1 := HEN7.out e he
            have h3 := HEL.out e he
            refine ⟨h1.1, ?_⟩
            rcases hwh with h | h
            · simp [Value.ownBlock] at h; omega
            · (first | omega | (simp only [World.size_alloc] at h3; omega))
          · rw [List.mem_singleton.1 he]
            exact ⟨hn7.2.2, hn9.2.2⟩)
        have HW9 : Hid (w9.ownsRow (w3.heap.size + 1) 65 1 (.slice (some ⟨g9, 0, none⟩) (ne + 1) cap9) (ne + 1) ((es ++ [(Ent.mk i gq cq)]).flatMap (Ent.enc sq))) := Lib.hid (by
          rw [snoc_flat (Ent.enc sq)]; exact hown)
        have hb9 := hb.grown hgr hb.size (fun q e => by have := (HW.out.lt q e).1; omega)
        have HO9 := Lib.hid (HO.out.kept hgr (.inr (by simp [Value.ownBlock]; omega)))
        have HX9 := Lib.hid (HX.out.kept hgr (.inr (by simp [Value.ownBlock]; omega)))
        have HQ9 := Lib.hid (HQ.out.kept hgr (.inr (by simp [Value.ownBlock]; omega)))
        have HS9 := Lib.hid ((HS.out.grown (g := g2) hgr (fun e he => (HEN7.out e he).2)).snoc (e := (Ent.mk i gq cq)) HQ9.out)
        have VA9 := Lib.hid (VA.out.grown hgr (own_ne HW.out (by omega)))
        have VP9 := Lib.hid (VP.out.grown hgr (own_ne HW.out (by omega)))
        have hgs9 := (HX9.out.lt gs rfl).2
        clear hown hgr hwh KN HO HW HX HQ hb VA VP HS HEN HEN7 HEL HQ9
        go_wp2
        go_roundw
        case rel => exact ⟨k + 1, es ++ [(Ent.mk i gq cq)], ne + 1, g7, cap7, g9, cap9, by omega, by go_num, rfl, rfl, HNE2, HES2, hn9.1, hn7.2.1, hn9.2.1, HEN9, hgs9, HO9, HW9, HS9, HX9, VP9, VA9, hb9⟩
        case measure => simp [intOf]; omega
      · have HES2 : Hid (es.map Ent.i = ct (fr.take (k + 1))) := Lib.hid (by
          rw [HTK.out, HCT2.out, if_neg h2, List.append_nil, HES.out])
        have h2i : ¬ (2 : Int) ≤ ((sq i).length : Int) := by omega
        have hgs9 := (HX.out.lt gs rfl).2
        clear VS HQ
        go_wp2
        go_roundw
        case rel => exact ⟨k + 1, es, ne, g1, c1, g2, c2, by omega, by go_num, rfl, rfl, HNE, HES2, h12, hs1, hs2, HEN, hgs9, HO, HW, HS, HX, VP, VA, hb⟩
        case measure => simp [intOf]; omega
    · obtain rfl : k = m := by omega
      have hE := HES.out
      rw [List.take_of_length_le (by omega)] at hE
      have HE2 := Lib.hid hE
      clear hE HES
      go_wp2
      go_ret2
      exact ⟨es, g1, c1, g2, c2, HE2.out, by rw [HNE.out]; rfl, by rw [HNE.out]; exact own_mono HO.out (by omega), by rw [HNE.out]; exact own_mono HW.out (by omega), HS.out.mono (by omega), hb⟩
theorem crossings_any (b : Brd) (p : Ply) (n : Nat) (w : World) (hp : PGood b p n) :
    Calls Tryz.prog 176 #[.agg #[.int .i64 b.size, .string b.premium, .string b.cells], .agg #[.int .i64 p.row, .int .i64 p.col, .bool p.down, .string p.word]] w (CrossPost (crossS b p) (sqOf p) (crossTo b p (b.fresh p)) w) := by
  obtain ⟨r, c, d, s⟩ := p
  cases d
  · exact cross_across b r c s n w hp
  · exact cross_down b r c s n w hp
end Go.Proofs.YtjdcdhhbgijaoaaGreatDoor

namespace Go.Proofs.YtjdcdhhbgijaoaaGreatDoor
open Go.ChangeShapes Go.WideShapes Go.ChangeAt Go.RowKit Go.Sort

theorem upL_congr {F G : Fl} {c c' r r' : Int} : ∀ (k : Nat), (∀ j : Nat, j < k → F (r - j) c = G (r' - j) c') → upL F c k r = upL G c' k r'
  | 0, _ => rfl
  | k + 1, h => by
    have h0 := h 0 (by omega)
    simp only [Int.natCast_zero, Int.sub_zero] at h0
    have ih := upL_congr (F := F) (G := G) (c := c) (c' := c') (r := r - 1) (r' := r' - 1) k (fun j hj => by
      have := h (j + 1) (by omega)
      rwa [show r - ((j + 1 : Nat) : Int) = r - 1 - (j : Int) from by omega, show r' - ((j + 1 : Nat) : Int) = r' - 1 - (j : Int) from by omega] at this)
    rw [upL, upL, h0, ih]
theorem dnL_congr {F G : Fl} {c c' r r' : Int} : ∀ (k : Nat), (∀ j : Nat, j < k → F (r + j) c = G (r' + j) c') → dnL F c k r = dnL G c' k r'
  | 0, _ => rfl
  | k + 1, h => by
    have h0 := h 0 (by omega)
    simp only [Int.natCast_zero, Int.add_zero] at h0
    have ih := dnL_congr (F := F) (G := G) (c := c) (c' := c') (r := r + 1) (r' := r' + 1) k (fun j hj => by
      have := h (j + 1) (by omega)
      rwa [show r + ((j + 1 : Nat) : Int) = r + 1 + (j : Int) from by omega, show r' + ((j + 1 : Nat) : Int) = r' + 1 + (j : Int) from by omega] at this)
    rw [dnL, dnL, h0, ih]
/-- a line across a play's square, seen in the play's view -/
theorem line_view {b : Brd} {n : Nat} (h : b.Good n) (p : Ply) (i : Nat) (m x : Int) : lineF b (!p.down) (p.sr i) (p.sc i) m x = b.view p (p.r + m) (p.c + i) := by
  rw [h.view]
  unfold lineF dirSq Ply.sr Ply.sc Ply.r Ply.c
  cases p.down <;> rfl
theorem PGood.line_off {b : Brd} {p : Ply} {n : Nat} (h : PGood b p n) (i : Nat) {m : Int} (hm : m ≠ 0) (x : Int) : lineF (b.made p) (!p.down) (p.sr i) (p.sc i) m x = b.view p (p.r + m) (p.c + i) := by
  rw [line_view h.made_good, h.made_out (.inl (by omega))]
theorem PGood.seqU_eq {b : Brd} {p : Ply} {n : Nat} (h : PGood b p n) (i : Nat) : seqU (b.made p) (!p.down) (p.sr i) (p.sc i) = (upL (b.view p) (p.c + i) 16 (p.r - 1)).length := by
  unfold seqU
  rw [upL_congr (G := b.view p) (c' := p.c + i) (r' := p.r - 1) 16 (fun j _ => by
    rw [h.line_off i (by omega), show p.r + (-1 - (j : Int)) = p.r - 1 - j from by omega])]
theorem PGood.seqD_eq {b : Brd} {p : Ply} {n : Nat} (h : PGood b p n) (i : Nat) : seqD (b.made p) (!p.down) (p.sr i) (p.sc i) = (dnL (b.view p) (p.c + i) 16 (p.r + 1)).length := by
  unfold seqD
  rw [dnL_congr (G := b.view p) (c' := p.c + i) (r' := p.r + 1) 16 (fun j _ => by
    rw [h.line_off i (by omega), show p.r + (1 + (j : Int)) = p.r + 1 + j from by omega])]
theorem PGood.cross_len {b : Brd} {p : Ply} {n : Nat} (h : PGood b p n) (i : Nat) (x : UInt8) : (crossS b p i).length = (crossW (b.view p) p.r (p.c + i) x).length := by
  unfold crossS
  rw [seqL_len, h.seqU_eq, h.seqD_eq, crossW_length]
/-- the letters on the squares of a word across -/
def lettersOf (b : Brd) (l : List (Int × Int)) : List UInt8 := l.map fun s => b.cell s.1 s.2
theorem PGood.cross_letters {b : Brd} {p : Ply} {n : Nat} (h : PGood b p n) {i : Nat} (hi : i < p.word.size) : lettersOf (b.made p) (crossS b p i) = crossW (b.view p) p.r (p.c + i) (p.word.data.toList.getD i 0) := by
  apply List.ext_getElem
  · unfold lettersOf
    rw [List.length_map, h.cross_len i (p.word.data.toList.getD i 0)]
  · intro j h1 h2
    have hu := h.seqU_eq i
    have e : (lettersOf (b.made p) (crossS b p i))[j] = lineF (b.made p) (!p.down) (p.sr i) (p.sc i) ((j : Int) - seqU (b.made p) (!p.down) (p.sr i) (p.sc i)) 0 := by
      unfold lettersOf crossS seqL
      simp only [List.map_map, List.getElem_map, List.getElem_range, Function.comp]
      rfl
    rw [e, hu]
    by_cases c1 : j < (upL (b.view p) (p.c + i) 16 (p.r - 1)).length
    · rw [(crossW_lo c1 h2).1, h.line_off i (by omega)]
      congr 1
      omega
    · by_cases c2 : j = (upL (b.view p) (p.c + i) 16 (p.r - 1)).length
      · subst c2
        rw [crossW_mid h2, Int.sub_self, line_view h.made_good, Int.add_zero]
        exact h.made_in hi
      · rw [(crossW_hi (by omega) h2).1, h.line_off i (by omega)]
        congr 1
        omega
end Go.Proofs.YtjdcdhhbgijaoaaGreatDoor
