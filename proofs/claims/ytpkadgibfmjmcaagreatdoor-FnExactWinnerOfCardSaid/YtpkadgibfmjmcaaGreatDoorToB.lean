/- Contracts: the program's letters on a board, blank boards, whether a play touches; TouchesBoard. Go's tables of unicode and unicode/utf8 hold what is laid (CEnv), and internal/bytealg's MaxLen a number (EnvM). -/
import Derived.Test.YtpkadgibfmjmcaaGreatDoorToA
import Derived.Test.YtpkadgibfmjmcaaGreatDoorPlbH
import Derived.Test.YtpkadgibfmjmcaaGreatDoorPlbC
import Derived.Test.YtpkadgibfmjmcaaGreatDoorShq
namespace Go.Proofs.YtpkadgibfmjmcaaGreatDoor
open Go.ChangeShapes Go.WideShapes Go.ChangeAt Go.RowKit Go.Sort

/-- the cell of internal/bytealg's MaxLen holds a number -/
def EnvL (w : World) : Prop := ∃ m : Int, w.cell? ⟨0, 0, none⟩ = some (.int .i64 m)
theorem EnvL.kept {w w' : World} (h : EnvL w) (hb : Below w.heap.size w w') : EnvL w' := by
  obtain ⟨m, hm⟩ := h
  exact ⟨m, cell_kept hm hb⟩
theorem drop_dot (s : ByteArray) : (⟨(Lib.replaceAll s.data.toList (⟨#[46]⟩ : ByteArray).data.toList (⟨#[]⟩ : ByteArray).data.toList).toArray⟩ : ByteArray) = mkB (lettersL s.data.toList) := by
  have := replaceAll_drop 46 s.data.toList
  show (⟨(Lib.replaceAll s.data.toList [46] []).toArray⟩ : ByteArray) = _
  rw [this]
  rfl
theorem lettersOn_any (b : Brd) (w : World) (hs : b.cells.size ≤ 225) (he : EnvL w) :
    Calls Tryz.prog 148 #[.agg #[.int .i64 b.size, .string b.premium, .string b.cells]] w (StrPost w (lettersL b.cells.data.toList)) := by
  have hb : Below w.heap.size w (w.alloc (.cells #[.int .i64 b.size, .string b.premium, .string b.cells] 36)) := (Below.refl _ _).alloc (Nat.le_refl _) _
  have VB := Lib.hid (VarAt.new w 36 [.int .i64 b.size, .string b.premium, .string b.cells])
  obtain ⟨m, hm⟩ := he.kept hb
  have HRA : Hid (Calls Tryz.prog 190 #[.string b.cells, .string ⟨#[46]⟩, .string ⟨#[]⟩] (w.alloc (.cells #[.int .i64 b.size, .string b.premium, .string b.cells] 36)) fun e w' => e = .returned (.string (mkB (lettersL b.cells.data.toList))) ∧ Below (w.alloc (.cells #[.int .i64 b.size, .string b.premium, .string b.cells] 36)).heap.size (w.alloc (.cells #[.int .i64 b.size, .string b.premium, .string b.cells] 36)) w') := Lib.hid (by
    rw [← drop_dot]
    exact Tryz.strings_ReplaceAll b.cells ⟨#[46]⟩ ⟨#[]⟩ m _ (by omega) hm (by decide) (by
      have : Lib.countB b.cells ⟨#[46]⟩ * (⟨#[]⟩ : ByteArray).size = 0 := by rw [show (⟨#[]⟩ : ByteArray).size = 0 from rfl, Nat.mul_zero]
      omega))
  clear hm
  go_enter Tryz.func148, Tryz.ntmps148
  go_upto_region 1 with fail
  generalize w.alloc (.cells #[.int .i64 b.size, .string b.premium, .string b.cells] 36) = w1 at *
  have c2 := VB.out.cell (i := 2) rfl
  go_wp2_with fail
  refine (HRA.out).mono ?_
  rintro e w3 ⟨rfl, hd⟩
  replace hb := hb.trans (hd.mono hb.size)
  clear hd c2
  go_wp2
  go_ret
  exact ⟨rfl, hb⟩
theorem blank_any (b : Brd) (w : World) (hs : b.cells.size ≤ 225) (he : EnvL w) :
    Calls Tryz.prog 145 #[.agg #[.int .i64 b.size, .string b.premium, .string b.cells]] w fun e w' => e = .returned (.bool b.blank) ∧ Below w.heap.size w w' := by
  have hb : Below w.heap.size w (w.alloc (.cells #[.int .i64 b.size, .string b.premium, .string b.cells] 36)) := (Below.refl _ _).alloc (Nat.le_refl _) _
  have VB := Lib.hid (VarAt.new w 36 [.int .i64 b.size, .string b.premium, .string b.cells])
  have HE := Lib.hid (he.kept hb)
  have HBD : Hid (b.blank = (mkB (lettersL b.cells.data.toList)).toList.isEmpty) := Lib.hid (by rw [empty_cmp]; unfold Brd.blank; rw [mkB_size])
  go_enter Tryz.func145, Tryz.ntmps145
  go_upto_region 1 with fail
  generalize w.alloc (.cells #[.int .i64 b.size, .string b.premium, .string b.cells] 36) = w1 at *
  have c0 := VB.out.cell (i := 0) rfl
  have c1 := VB.out.cell (i := 1) rfl
  have c2 := VB.out.cell (i := 2) rfl
  go_wp2_with fail
  refine (lettersOn_any b _ hs HE.out).mono ?_
  rintro e w3 ⟨rfl, hd⟩
  replace hb := hb.trans (hd.mono hb.size)
  clear hd c0 c1 c2
  generalize mkB (lettersL b.cells.data.toList) = sl at *
  go_wp2
  go_ret
  exact ⟨by rw [HBD.out]; rfl, hb⟩
theorem any_take_succ {α : Type} {l : List α} {f : α → Bool} {k : Nat} (h : k < l.length) (h0 : (l.take k).any f = false) (h1 : f l[k] = false) : (l.take (k + 1)).any f = false := by
  rw [List.take_succ_eq_append_getElem h, List.any_append, h0]
  simp [h1]
theorem any_at {α : Type} {l : List α} {f : α → Bool} {k : Nat} (h : k < l.length) (h1 : f l[k] = true) : l.any f = true := List.any_eq_true.2 ⟨l[k], List.getElem_mem _, h1⟩
set_option maxRecDepth 100000 in
set_option maxHeartbeats 4000000 in
theorem touches_any (b : Brd) (p : Ply) (n : Nat) (w : World) (hp : PGood b p n) (he : EnvL w) :
    Calls Tryz.prog 135 #[.agg #[.int .i64 b.size, .string b.premium, .string b.cells], .agg #[.int .i64 p.row, .int .i64 p.col, .bool p.down, .string p.word]] w fun e w' => e = .returned (.bool (b.touch p)) ∧ Below w.heap.size w w' := by
  have hn15 := hp.good.hi
  have hs12 := hp.twelve
  have hbs := hp.good.size
  have hcs : b.cells.size ≤ 225 := by have := hp.good.cells; have := sq_mono hn15; omega
  have HMI := Lib.hid (hp.middle)
  have HFU := Lib.hid (touch_full (b := b) (p := p))
  have HNS : Hid (∀ W, Calls Tryz.prog 134 #[.agg #[.int .i64 b.size, .string b.premium, .string b.cells], .agg #[.int .i64 p.row, .int .i64 p.col, .bool p.down, .string p.word]] W (NewPost p (b.fresh p) W)) := Lib.hid (fun W => newSquares_any b p n W hp)
  have HWF : Hid (∀ W, Calls Tryz.prog 136 #[.agg #[.int .i64 b.size, .string b.premium, .string b.cells], .agg #[.int .i64 p.row, .int .i64 p.col, .bool p.down, .string p.word]] W (TextsPost W (b.words p))) := Lib.hid (fun W => wordsFormed_any b p n W hp)
  have HBK : Hid (∀ W, EnvL W → Calls Tryz.prog 145 #[.agg #[.int .i64 b.size, .string b.premium, .string b.cells]] W fun e w' => e = .returned (.bool b.blank) ∧ Below W.heap.size W w') := Lib.hid (fun W h => blank_any b W hcs h)
  have hfl : (b.fresh p).length ≤ p.word.size := freshL_len _ _ _ _
  have HBS := Lib.hid hbs
  clear hp hcs hbs
  obtain ⟨w2, hw2⟩ : ∃ w2, w2 = (w.alloc (.cells #[.int .i64 b.size, .string b.premium, .string b.cells] 36)).alloc (.cells #[.int .i64 p.row, .int .i64 p.col, .bool p.down, .string p.word] 38) := ⟨_, rfl⟩
  have hb : Below w.heap.size w w2 := by rw [hw2]; exact ((Below.refl _ _).alloc (Nat.le_refl _) _).alloc (by simp) _
  have VB : Hid (VarAt w2 w.heap.size 36 [.int .i64 b.size, .string b.premium, .string b.cells]) := by
    rw [hw2]
    exact Lib.hid ((VarAt.new w 36 [.int .i64 b.size, .string b.premium, .string b.cells]).kept ((Below.refl _ _).alloc (Nat.le_refl _) _))
  have VP : Hid (VarAt w2 (w.heap.size + 1) 38 [.int .i64 p.row, .int .i64 p.col, .bool p.down, .string p.word]) := by
    rw [hw2]
    have := VarAt.new (w.alloc (.cells #[.int .i64 b.size, .string b.premium, .string b.cells] 36)) 38 [.int .i64 p.row, .int .i64 p.col, .bool p.down, .string p.word]
    simp only [World.size_alloc] at this
    exact Lib.hid this
  have HE := Lib.hid (he.kept hb)
  have HW2 := Lib.hid hw2
  clear hw2 he
  generalize b.touch p = ans at *
  generalize b.blank = bl at *
  generalize b.words p = xs at *
  go_enter Tryz.func135, Tryz.ntmps135
  go_upto_region 1 with fail
  rw [← HW2.out]
  clear HW2
  have b0 := VB.out.cell (i := 0) rfl
  have b1 := VB.out.cell (i := 1) rfl
  have b2 := VB.out.cell (i := 2) rfl
  have p0 := VP.out.cell (i := 0) rfl
  have p1 := VP.out.cell (i := 1) rfl
  have p2 := VP.out.cell (i := 2) rfl
  have p3 := VP.out.cell (i := 3) rfl
  go_wp2_with fail
  refine (HNS.out _).mono ?_
  rintro e w3 ⟨gs, cs, gi, ci, rfl, hgg, hx, hxi, hd⟩
  have HX := Lib.hid (own_mono hx (show w.heap.size ≤ _ from hb.size))
  clear hx hxi hgg
  replace hb := hb.trans (hd.mono hb.size)
  replace b0 := cell_kept b0 hd
  replace b1 := cell_kept b1 hd
  replace b2 := cell_kept b2 hd
  replace p0 := cell_kept p0 hd
  replace p1 := cell_kept p1 hd
  replace p2 := cell_kept p2 hd
  replace p3 := cell_kept p3 hd
  replace VB := Lib.hid (VB.out.kept hd)
  replace VP := Lib.hid (VP.out.kept hd)
  replace HE := Lib.hid (HE.out.kept hd)
  clear hd
  clear HNS
  generalize b.fresh p = fr at *
  go_wp2_with fail
  refine (HBK.out _ HE.out).mono ?_
  rintro e w4 ⟨rfl, hd⟩
  replace hb := hb.trans (hd.mono hb.size)
  replace b0 := cell_kept b0 hd
  replace b1 := cell_kept b1 hd
  replace b2 := cell_kept b2 hd
  replace p0 := cell_kept p0 hd
  replace p1 := cell_kept p1 hd
  replace p2 := cell_kept p2 hd
  replace p3 := cell_kept p3 hd
  replace HX := Lib.hid (own_below HX.out hd)
  replace VB := Lib.hid (VB.out.kept hd)
  replace VP := Lib.hid (VP.out.kept hd)
  clear hd
  clear HBK HE
  cases hbl : bl with
  | false =>
    have HB := Lib.hid (HFU.out hbl)
    clear HFU HMI hbl HX
    by_cases e1 : fr.length < p.word.size
    · have HN : Hid (ans = true) := Lib.hid (by rw [HB.out, decide_eq_true e1]; rfl)
      clear HB HWF
      go_wp2
      go_ret
      exact ⟨ret_bool (by rw [HN.out] <;> (first | rfl | simp [*])), hb⟩
    · have e4 : decide (fr.length < p.word.size) = false := decide_eq_false e1
      have e5 : decide ((fr.length : Int) < (p.word.size : Int)) = false := decide_eq_false (by omega)
      have HN : Hid (ans = decide (1 < xs.length)) := Lib.hid (by rw [HB.out, e4, Bool.false_or])
      clear HB e1
      go_wp2_with fail
      refine (HWF.out _).mono ?_
      rintro e w5 ⟨g1, cx, rfl, hx0, hd⟩
      replace hb := hb.trans (hd.mono hb.size)
      clear hx0 hd b0 b1 b2 p0 p1 p2 p3
      go_wp2
      go_ret
      exact ⟨ret_bool (by rw [HN.out]; exact decide_eq_decide.2 (by omega)), hb⟩
  | true =>
    have HB := Lib.hid (HMI.out hbl)
    clear HFU HMI HWF hbl
    obtain ⟨m, hmm⟩ : ∃ m : Int, b.size / 2 = m := ⟨_, rfl⟩
    rw [hmm] at HB
    have hm15 : 0 ≤ m ∧ m ≤ 15 := by have := HBS.out; omega
    obtain ⟨f, hf⟩ : ∃ f : Nat → Bool, ∀ i, f i = decide (sqOf p i = (m, m)) := ⟨_, fun _ => rfl⟩
    have HAN : Hid (ans = fr.any f) := Lib.hid (by rw [← HB.out]; congr 1; funext i; rw [hf])
    have HF : Hid (∀ i, f i = (((sqOf p i).1 == m) && ((sqOf p i).2 == m))) := Lib.hid (fun i => by
      rw [hf, Bool.eq_iff_iff, decide_eq_true_eq, Bool.and_eq_true, beq_iff_eq, beq_iff_eq, Prod.ext_iff])
    clear HB hf
    go_upto_region 5 with fail
    clear b0 b1 b2 p0 p1 p2 p3 VB VP hmm
    have VM := Lib.hid (VarAt.new w4 150 [.int .i64 m, .int .i64 m])
    have hd : Below w4.heap.size w4 (w4.alloc (.cells #[.int .i64 m, .int .i64 m] 150)) := (Below.refl _ _).alloc (Nat.le_refl _) _
    have hz4 := hb.size
    have hgs := (HX.out.lt gs rfl).2
    replace hb := hb.trans (hd.mono hb.size)
    replace HX := Lib.hid (own_below HX.out hd)
    clear hd
    have HR : Hid (∀ k, k < fr.length → ∃ i : Nat, ((fr.take k).any f = false → f i = false → (fr.take (k + 1)).any f = false) ∧ (f i = true → ans = true) ∧ ∀ W : World, W.ownsRow w.heap.size 150 2 (.slice (some ⟨gs, 0, none⟩) fr.length cs) fr.length ((fr.map (sqOf p)).flatMap Sq.enc) → W.cell? ⟨gs, k * 2, none⟩ = some (.int .i64 (sqOf p i).1) ∧ W.cell? ⟨gs, k * 2 + 1, none⟩ = some (.int .i64 (sqOf p i).2)) := Lib.hid (fun k h => ⟨fr[k], any_take_succ h, fun e => by rw [HAN.out]; exact any_at h e, fun W hx => by
      have := row_sq hx (k := k) (by rw [List.length_map]; exact h)
      rwa [List.getElem_map] at this⟩)
    generalize hfrl : fr.length = fl at *
    have HFL := Lib.hid hfrl
    have hgw : w4.heap.size < (w4.alloc (.cells #[.int .i64 m, .int .i64 m] 150)).heap.size := by simp
    generalize w4.alloc (.cells #[.int .i64 m, .int .i64 m] 150) = w5 at *
    generalize w4.heap.size = gm at *
    clear hfrl
    go_wp2_with fail
    go_loopw [41] (fun iv wr => ∃ (k : Nat), k ≤ fl ∧ iv = .int .i64 k ∧ Hid ((fr.take k).any f = false) ∧ Hid (wr.ownsRow w.heap.size 150 2 (.slice (some ⟨gs, 0, none⟩) fl cs) fl ((fr.map (sqOf p)).flatMap Sq.enc)) ∧ Hid (VarAt wr gm 150 [.int .i64 m, .int .i64 m]) ∧ Below w.heap.size w wr) (fun iv _ => fl - (intOf iv).toNat)
    case atStart => exact ⟨0, Nat.zero_le _, rfl, Lib.hid (by simp), HX, VM, hb⟩
    case round =>
      clear HX VM hb hgs
      obtain ⟨k, hk, rfl, HA0, HX, VM, hb⟩ := hrel
      by_cases hkm : k < fl
      · obtain ⟨i, ht1, ht2, hrs⟩ := HR.out k hkm
        obtain ⟨x0, x1⟩ := hrs wr HX.out
        have HT1 := Lib.hid (ht1 HA0.out)
        have HT2 := Lib.hid ht2
        have HF1 := Lib.hid (HF.out i)
        clear ht1 ht2 hrs
        generalize sqOf p i = sq at *
        obtain ⟨s1, s2⟩ := sq
        simp only at x0 x1
        have HF1 : Hid (f i = ((s1 == m) && (s2 == m))) := HF1
        have VS := Lib.hid (VarAt.new wr 150 [.int .i64 s1, .int .i64 s2])
        have hd : Below wr.heap.size wr (wr.alloc (.cells #[.int .i64 s1, .int .i64 s2] 150)) := (Below.refl _ _).alloc (Nat.le_refl _) _
        have HX2 := Lib.hid (own_below HX.out hd)
        have VM2 := Lib.hid (VM.out.kept hd)
        have hb2 := hb.trans (hd.mono hb.size)
        clear hd
        go_upto_region 8 with fail
        clear x0 x1
        generalize wr.alloc (.cells #[.int .i64 s1, .int .i64 s2] 150) = w6 at *
        have m0 := VM2.out.cell (i := 0) rfl
        have m1 := VM2.out.cell (i := 1) rfl
        have s0 := VS.out.cell (i := 0) rfl
        have s3 := VS.out.cell (i := 1) rfl
        cases e1 : (s1 == m) <;> cases e2 : (s2 == m)
        case true.true =>
          have HN : Hid (ans = true) := Lib.hid (HT2.out (by rw [HF1.out, e1, e2]; rfl))
          clear HT1 HT2 HF1
          go_wp2
          go_ret
          exact ⟨ret_bool HN.out.symm, hb2⟩
        all_goals
          have HA7 := Lib.hid (HT1.out (by rw [HF1.out, e1, e2]; rfl))
          clear HT1 HT2 HF1 HX VM hb
          go_wp2
          go_roundw
          case rel => exact ⟨k + 1, by omega, by go_num, HA7, HX2, VM2, hb2⟩
          case measure => simp [intOf]; omega
      · obtain rfl : k = fl := by omega
        have HN : Hid (ans = false) := Lib.hid (by
          have := HA0.out
          rw [List.take_of_length_le (by rw [HFL.out]; exact Nat.le_refl _)] at this
          rw [HAN.out, this])
        go_wp2
        go_ret
        exact ⟨ret_bool HN.out.symm, hb⟩
end Go.Proofs.YtpkadgibfmjmcaaGreatDoor
