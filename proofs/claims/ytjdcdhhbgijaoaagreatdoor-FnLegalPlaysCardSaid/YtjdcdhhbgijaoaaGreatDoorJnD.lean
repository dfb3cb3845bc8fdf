/- Contracts: the program's letters on a board, blank boards, whether a play touches; Touches · Contract: whether all letters of a board are joined. For valid boards; internal/bytealg's  -/
import Derived.Test.YtjdcdhhbgijaoaaGreatDoorToA
import Derived.Test.YtjdcdhhbgijaoaaGreatDoorPlbH
import Derived.Test.YtjdcdhhbgijaoaaGreatDoorShq
import Derived.Test.YtjdcdhhbgijaoaaGreatDoorJnB
import Derived.Test.YtjdcdhhbgijaoaaGreatDoorShj
import Derived.StillTailTactics
import Derived.StillTail
import Derived.BigQuiet
namespace Go.Proofs.YtjdcdhhbgijaoaaGreatDoor
open Go.ChangeShapes Go.WideShapes Go.ChangeAt Go.RowKit Go.Sort

/-- the cell of internal/bytealg's MaxLen holds a number -/
def EnvL (w : World) : Prop := ∃ m : Int, w.cell? ⟨0, 0, none⟩ = some (.int .i64 m)
theorem EnvL.kept {w w' : World} (h : EnvL w) (hb : Below w.heap.size w w') : EnvL w' := by
  obtain ⟨m, hm⟩ := h
  exact ⟨m, cell_kept hm hb⟩
theorem drop_dot (s : ByteArray) : (⟨(Lib.replaceAll s.data.toList (⟨#[46]⟩ : ByteArray).data.toList (⟨#[]⟩ : ByteArray).data.toList).toArray⟩ : ByteArray) = mkB (lettersL s.data.toList) := by
  have := replaceAll_drop 46 s.data.toList
  show (⟨(Lib.replaceAll s.data.toList [46] []).toArray⟩ : ByteArray) = _
  rw [this]
  rfl
theorem lettersOn_any (b : Brd) (w : World) (hs : b.cells.size ≤ 225) (he : EnvL w) :
    Calls Tryz.prog 115 #[.agg #[.int .i64 b.size, .string b.premium, .string b.cells]] w (StrPost w (lettersL b.cells.data.toList)) := by
  have hb : Below w.heap.size w (w.alloc (.cells #[.int .i64 b.size, .string b.premium, .string b.cells] 25)) := (Below.refl _ _).alloc (Nat.le_refl _) _
  have VB := Lib.hid (VarAt.new w 25 [.int .i64 b.size, .string b.premium, .string b.cells])
  obtain ⟨m, hm⟩ := he.kept hb
  have HRA : Hid (Calls Tryz.prog 203 #[.string b.cells, .string ⟨#[46]⟩, .string ⟨#[]⟩] (w.alloc (.cells #[.int .i64 b.size, .string b.premium, .string b.cells] 25)) fun e w' => e = .returned (.string (mkB (lettersL b.cells.data.toList))) ∧ Below (w.alloc (.cells #[.int .i64 b.size, .string b.premium, .string b.cells] 25)).heap.size (w.alloc (.cells #[.int .i64 b.size, .string b.premium, .string b.cells] 25)) w') := Lib.hid (by
    rw [← drop_dot]
    exact Tryz.strings_ReplaceAll b.cells ⟨#[46]⟩ ⟨#[]⟩ m _ (by omega) hm (by decide) (by
      have : Lib.countB b.cells ⟨#[46]⟩ * (⟨#[]⟩ : ByteArray).size = 0 := by rw [show (⟨#[]⟩ : ByteArray).size = 0 from rfl, Nat.mul_zero]
      omega))
  clear hm
  go_enter Tryz.func115, Tryz.ntmps115
  go_upto_region 1 with fail
  generalize w.alloc (.cells #[.int .i64 b.size, .string b.premium, .string b.cells] 25) = w1 at *
  have c2 := VB.out.cell (i := 2) rfl
  go_wp2_with fail
  refine (HRA.out).mono ?_
  rintro e w3 ⟨rfl, hd⟩
  replace hb := hb.trans (hd.mono hb.size)
  clear hd c2
  go_wp2
  go_ret
  exact ⟨rfl, hb⟩
theorem blank_any (b : Brd) (w : World) (hs : b.cells.size ≤ 225) (he : EnvL w) :
    Calls Tryz.prog 151 #[.agg #[.int .i64 b.size, .string b.premium, .string b.cells]] w fun e w' => e = .returned (.bool b.blank) ∧ Below w.heap.size w w' := by
  have hb : Below w.heap.size w (w.alloc (.cells #[.int .i64 b.size, .string b.premium, .string b.cells] 25)) := (Below.refl _ _).alloc (Nat.le_refl _) _
  have VB := Lib.hid (VarAt.new w 25 [.int .i64 b.size, .string b.premium, .string b.cells])
  have HE := Lib.hid (he.kept hb)
  have HBD : Hid (b.blank = (mkB (lettersL b.cells.data.toList)).toList.isEmpty) := Lib.hid (by rw [empty_cmp]; unfold Brd.blank; rw [mkB_size])
  go_enter Tryz.func151, Tryz.ntmps151
  go_upto_region 1 with fail
  generalize w.alloc (.cells #[.int .i64 b.size, .string b.premium, .string b.cells] 25) = w1 at *
  have c0 := VB.out.cell (i := 0) rfl
  have c1 := VB.out.cell (i := 1) rfl
  have c2 := VB.out.cell (i := 2) rfl
  go_wp2_with fail
  refine (lettersOn_any b _ hs HE.out).mono ?_
  rintro e w3 ⟨rfl, hd⟩
  replace hb := hb.trans (hd.mono hb.size)
  clear hd c0 c1 c2
  generalize mkB (lettersL b.cells.data.toList) = sl at *
  go_wp2
  go_ret
  exact ⟨by rw [HBD.out]; rfl, hb⟩
theorem any_take_succ {α : Type} {l : List α} {f : α → Bool} {k : Nat} (h : k < l.length) (h0 : (l.take k).any f = false) (h1 : f l[k] = false) : (l.take (k + 1)).any f = false := by
  rw [List.take_succ_eq_append_getElem h, List.any_append, h0]
  simp [h1]
theorem any_at {α : Type} {l : List α} {f : α → Bool} {k : Nat} (h : k < l.length) (h1 : f l[k] = true) : l.any f = true := List.any_eq_true.2 ⟨l[k], List.getElem_mem _, h1⟩
set_option maxRecDepth 100000 in
set_option maxHeartbeats 4000000 in
theorem touches_any (b : Brd) (p : Ply) (n : Nat) (w : World) (hp : PGood b p n) (he : EnvL w) :
    Calls Tryz.prog 80 #[.agg #[.int .i64 b.size, .string b.premium, .string b.cells], .agg #[.int .i64 p.row, .int .i64 p.col, .bool p.down, .string p.word]] w fun e w' => e = .returned (.bool (b.touch p)) ∧ Below w.heap.size w w' := by
  have hn15 := hp.good.hi
  have hs12 := hp.twelve
  have hbs := hp.good.size
  have hcs : b.cells.size ≤ 225 := by have := hp.good.cells; have := sq_mono hn15; omega
  have HMI := Lib.hid (hp.middle)
  have HFU := Lib.hid (touch_full (b := b) (p := p))
  have HNS : Hid (∀ W, Calls Tryz.prog 121 #[.agg #[.int .i64 b.size, .string b.premium, .string b.cells], .agg #[.int .i64 p.row, .int .i64 p.col, .bool p.down, .string p.word]] W (NewPost p (b.fresh p) W)) := Lib.hid (fun W => newSquares_any b p n W hp)
  have HWF : Hid (∀ W, Calls Tryz.prog 83 #[.agg #[.int .i64 b.size, .string b.premium, .string b.cells], .agg #[.int .i64 p.row, .int .i64 p.col, .bool p.down, .string p.word]] W (TextsPost W (b.words p))) := Lib.hid (fun W => wordsFormed_any b p n W hp)
  have HBK : Hid (∀ W, EnvL W → Calls Tryz.prog 151 #[.agg #[.int .i64 b.size, .string b.premium, .string b.cells]] W fun e w' => e = .returned (.bool b.blank) ∧ Below W.heap.size W w') := Lib.hid (fun W h => blank_any b W hcs h)
  have hfl : (b.fresh p).length ≤ p.word.size := freshL_len _ _ _ _
  have HBS := Lib.hid hbs
  clear hp hcs hbs
  obtain ⟨w2, hw2⟩ : ∃ w2, w2 = (w.alloc (.cells #[.int .i64 b.size, .string b.premium, .string b.cells] 25)).alloc (.cells #[.int .i64 p.row, .int .i64 p.col, .bool p.down, .string p.word] 30) := ⟨_, rfl⟩
  have hb : Below w.heap.size w w2 := by rw [hw2]; exact ((Below.refl _ _).alloc (Nat.le_refl _) _).alloc (by simp) _
  have VB : Hid (VarAt w2 w.heap.size 25 [.int .i64 b.size, .string b.premium, .string b.cells]) := by
    rw [hw2]
    exact Lib.hid ((VarAt.new w 25 [.int .i64 b.size, .string b.premium, .string b.cells]).kept ((Below.refl _ _).alloc (Nat.le_refl _) _))
  have VP : Hid (VarAt w2 (w.heap.size + 1) 30 [.int .i64 p.row, .int .i64 p.col, .bool p.down, .string p.word]) := by
    rw [hw2]
    have := VarAt.new (w.alloc (.cells #[.int .i64 b.size, .string b.premium, .string b.cells] 25)) 30 [.int .i64 p.row, .int .i64 p.col, .bool p.down, .string p.word]
    simp only [World.size_alloc] at this
    exact Lib.hid this
  have HE := Lib.hid (he.kept hb)
  have HW2 := Lib.hid hw2
  clear hw2 he
  generalize b.touch p = ans at *
  generalize b.blank = bl at *
  generalize b.words p = xs at *
  go_enter Tryz.func80, Tryz.ntmps80
  go_upto_region 1 with fail
  rw [← HW2.out]
  clear HW2
  have b0 := VB.out.cell (i := 0) rfl
  have b1 := VB.out.cell (i := 1) rfl
  have b2 := VB.out.cell (i := 2) rfl
  have p0 := VP.out.cell (i := 0) rfl
  have p1 := VP.out.cell (i := 1) rfl
  have p2 := VP.out.cell (i := 2) rfl
  have p3 := VP.out.cell (i := 3) rfl
  go_wp2_with fail
  refine (HNS.out _).mono ?_
  rintro e w3 ⟨gs, cs, gi, ci, rfl, hgg, hx, hxi, hd⟩
  have HX := Lib.hid (own_mono hx (show w.heap.size ≤ _ from hb.size))
  clear hx hxi hgg
  replace hb := hb.trans (hd.mono hb.size)
  replace b0 := cell_kept b0 hd
  replace b1 := cell_kept b1 hd
  replace b2 := cell_kept b2 hd
  replace p0 := cell_kept p0 hd
  replace p1 := cell_kept p1 hd
  replace p2 := cell_kept p2 hd
  replace p3 := cell_kept p3 hd
  replace VB := Lib.hid (VB.out.kept hd)
  replace VP := Lib.hid (VP.out.kept hd)
  replace HE := Lib.hid (HE.out.kept hd)
  clear hd
  clear HNS
  generalize b.fresh p = fr at *
  go_wp2_with fail
  refine (HBK.out _ HE.out).mono ?_
  rintro e w4 ⟨rfl, hd⟩
  replace hb := hb.trans (hd.mono hb.size)
  replace b0 := cell_kept b0 hd
  replace b1 := cell_kept b1 hd
  replace b2 := cell_kept b2 hd
  replace p0 := cell_kept p0 hd
  replace p1 := cell_kept p1 hd
  replace p2 := cell_kept p2 hd
  replace p3 := cell_kept p3 hd
  replace HX := Lib.hid (own_below HX.out hd)
  replace VB := Lib.hid (VB.out.kept hd)
  replace VP := Lib.hid (VP.out.kept hd)
  clear hd
  clear HBK HE
  cases hbl : bl with
  | false =>
    have HB := Lib.hid (HFU.out hbl)
    clear HFU HMI hbl HX
    by_cases e1 : fr.length < p.word.size
    · have HN : Hid (ans = true) := Lib.hid (by rw [HB.out, decide_eq_true e1]; rfl)
      clear HB HWF
      go_wp2
      go_ret
      exact ⟨ret_bool (by rw [HN.out] <;> (first | rfl | simp [*])), hb⟩
    · have e4 : decide (fr.length < p.word.size) = false := decide_eq_false e1
      have e5 : decide ((fr.length : Int) < (p.word.size : Int)) = false := decide_eq_false (by omega)
      have HN : Hid (ans = decide (1 < xs.length)) := Lib.hid (by rw [HB.out, e4, Bool.false_or])
      clear HB e1
      go_wp2_with fail
      refine (HWF.out _).mono ?_
      rintro e w5 ⟨g1, cx, rfl, hx0, hd⟩
      replace hb := hb.trans (hd.mono hb.size)
      clear hx0 hd b0 b1 b2 p0 p1 p2 p3
      go_wp2
      go_ret
      exact ⟨ret_bool (by rw [HN.out]; exact decide_eq_decide.2 (by omega)), hb⟩
  | true =>
    have HB := Lib.hid (HMI.out hbl)
    clear HFU HMI HWF hbl
    obtain ⟨m, hmm⟩ : ∃ m : Int, b.size / 2 = m := ⟨_, rfl⟩
    rw [hmm] at HB
    have hm15 : 0 ≤ m ∧ m ≤ 15 := by have := HBS.out; omega
    obtain ⟨f, hf⟩ : ∃ f : Nat → Bool, ∀ i, f i = decide (sqOf p i = (m, m)) := ⟨_, fun _ => rfl⟩
    have HAN : Hid (ans = fr.any f) := Lib.hid (by rw [← HB.out]; congr 1; funext i; rw [hf])
    have HF : Hid (∀ i, f i = (((sqOf p i).1 == m) && ((sqOf p i).2 == m))) := Lib.hid (fun i => by
      rw [hf, Bool.eq_iff_iff, decide_eq_true_eq, Bool.and_eq_true, beq_iff_eq, beq_iff_eq, Prod.ext_iff])
    clear HB hf
    go_upto_region 5 with fail
    clear b0 b1 b2 p0 p1 p2 p3 VB VP hmm
    have VM := Lib.hid (VarAt.new w4 73 [.int .i64 m, .int .i64 m])
    have hd : Below w4.heap.size w4 (w4.alloc (.cells #[.int .i64 m, .int .i64 m] 73)) := (Below.refl _ _).alloc (Nat.le_refl _) _
    have hz4 := hb.size
    have hgs := (HX.out.lt gs rfl).2
    replace hb := hb.trans (hd.mono hb.size)
    replace HX := Lib.hid (own_below HX.out hd)
    clear hd
    have HR : Hid (∀ k, k < fr.length → ∃ i : Nat, ((fr.take k).any f = false → f i = false → (fr.take (k + 1)).any f = false) ∧ (f i = true → ans = true) ∧ ∀ W : World, W.ownsRow w.heap.size 73 2 (.slice (some ⟨gs, 0, none⟩) fr.length cs) fr.length ((fr.map (sqOf p)).flatMap Sq.enc) → W.cell? ⟨gs, k * 2, none⟩ = some (.int .i64 (sqOf p i).1) ∧ W.cell? ⟨gs, k * 2 + 1, none⟩ = some (.int .i64 (sqOf p i).2)) := Lib.hid (fun k h => ⟨fr[k], any_take_succ h, fun e => by rw [HAN.out]; exact any_at h e, fun W hx => by
      have := row_sq hx (k := k) (by rw [List.length_map]; exact h)
      rwa [List.getElem_map] at this⟩)
    generalize hfrl : fr.length = fl at *
    have HFL := Lib.hid hfrl
    have hgw : w4.heap.size < (w4.alloc (.cells #[.int .i64 m, .int .i64 m] 73)).heap.size := by simp
    generalize w4.alloc (.cells #[.int .i64 m, .int .i64 m] 73) = w5 at *
    generalize w4.heap.size = gm at *
    clear hfrl
    go_wp2_with fail
    go_loopw [41] (fun iv wr => ∃ (k : Nat), k ≤ fl ∧ iv = .int .i64 k ∧ Hid ((fr.take k).any f = false) ∧ Hid (wr.ownsRow w.heap.size 73 2 (.slice (some ⟨gs, 0, none⟩) fl cs) fl ((fr.map (sqOf p)).flatMap Sq.enc)) ∧ Hid (VarAt wr gm 73 [.int .i64 m, .int .i64 m]) ∧ Below w.heap.size w wr) (fun iv _ => fl - (intOf iv).toNat)
    case atStart => exact ⟨0, Nat.zero_le _, rfl, Lib.hid (by simp), HX, VM, hb⟩
    case round =>
      clear HX VM hb hgs
      obtain ⟨k, hk, rfl, HA0, HX, VM, hb⟩ := hrel
      by_cases hkm : k < fl
      · obtain ⟨i, ht1, ht2, hrs⟩ := HR.out k hkm
        obtain ⟨x0, x1⟩ := hrs wr HX.out
        have HT1 := Lib.hid (ht1 HA0.out)
        have HT2 := Lib.hid ht2
        have HF1 := Lib.hid (HF.out i)
        clear ht1 ht2 hrs
        generalize sqOf p i = sq at *
        obtain ⟨s1, s2⟩ := sq
        simp only at x0 x1
        have HF1 : Hid (f i = ((s1 == m) && (s2 == m))) := HF1
        have VS := Lib.hid (VarAt.new wr 73 [.int .i64 s1, .int .i64 s2])
        have hd : Below wr.heap.size wr (wr.alloc (.cells #[.int .i64 s1, .int .i64 s2] 73)) := (Below.refl _ _).alloc (Nat.le_refl _) _
        have HX2 := Lib.hid (own_below HX.out hd)
        have VM2 := Lib.hid (VM.out.kept hd)
        have hb2 := hb.trans (hd.mono hb.size)
        clear hd
        go_upto_region 8 with fail
        clear x0 x1
        generalize wr.alloc (.cells #[.int .i64 s1, .int .i64 s2] 73) = w6 at *
        have m0 := VM2.out.cell (i := 0) rfl
        have m1 := VM2.out.cell (i := 1) rfl
        have s0 := VS.out.cell (i := 0) rfl
        have s3 := VS.out.cell (i := 1) rfl
        cases e1 : (s1 == m) <;> cases e2 : (s2 == m)
        case true.true =>
          have HN : Hid (ans = true) := Lib.hid (HT2.out (by rw [HF1.out, e1, e2]; rfl))
          clear HT1 HT2 HF1
          go_wp2
          go_ret
          exact ⟨ret_bool HN.out.symm, hb2⟩
        all_goals
          have HA7 := Lib.hid (HT1.out (by rw [HF1.out, e1, e2]; rfl))
          clear HT1 HT2 HF1 HX VM hb
          go_wp2
          go_roundw
          case rel => exact ⟨k + 1, by omega, by go_num, HA7, HX2, VM2, hb2⟩
          case measure => simp [intOf]; omega
      · obtain rfl : k = fl := by omega
        have HN : Hid (ans = false) := Lib.hid (by
          have := HA0.out
          rw [List.take_of_length_le (by rw [HFL.out]; exact Nat.le_refl _)] at this
          rw [HAN.out, this])
        go_wp2
        go_ret
        exact ⟨ret_bool HN.out.symm, hb⟩
end Go.Proofs.YtjdcdhhbgijaoaaGreatDoor
namespace Go.Proofs.YtjdcdhhbgijaoaaGreatDoor
open Go.ChangeShapes Go.WideShapes Go.ChangeAt Go.RowKit Go.Sort

noncomputable def Brd.joined (b : Brd) : Bool := @decide (joinedF b.cell) (Classical.propDecidable _)
theorem joined_iff {b : Brd} : b.joined = true ↔ joinedF b.cell := by
  unfold Brd.joined
  exact @decide_eq_true_iff _ (Classical.propDecidable _)
/-- the first square with a letter -/
theorem idx_from (s : ByteArray) (ha : ∀ i (h : i < s.size), (s[i]'h).toNat < 128) : ∀ (f pos : Nat), s.size ≤ pos + f → (∃ j, ∃ h : j < s.size, pos ≤ j ∧ s[j]'h ≠ 46) → ∃ i, ∃ h : i < s.size, s[i]'h ≠ 46 ∧ Lib.idxFuncFrom (fun r => r != 46) true s f pos = (i : Int)
  | 0, pos, hf, ⟨j, hj, hp, _⟩ => by omega
  | f + 1, pos, hf, ⟨j, hj, hp, hne⟩ => by
    have hlt : pos < s.size := by omega
    unfold Lib.idxFuncFrom
    rw [if_pos hlt, decode_ascii s pos hlt (ha pos hlt)]
    by_cases h46 : s[pos] = 46
    · rw [if_neg (by rw [h46]; decide)]
      refine idx_from s ha f (pos + 1) (by omega) ⟨j, hj, ?_, hne⟩
      have : j ≠ pos := fun e => by subst e; exact hne h46
      omega
    · refine ⟨pos, hlt, h46, ?_⟩
      have : ¬ (s[pos]).toNat = 46 := fun e => h46 (u8_46 (by omega))
      rw [if_pos (by simp [this])]
theorem first_any (W : World) (x : Nat) : Calls Tryz.prog 155 #[.int .i32 (x : Int)] W fun e w' => e = .returned (.bool (x != 46)) ∧ ∃ q, w' = W.drewN q := by
  have hx : (x != 46) = !decide ((x : Int) = 46) := by
    by_cases h : x = 46
    · subst h; rfl
    · have : ¬ (x : Int) = 46 := by omega
      simp [h, this]
  rw [hx]
  go_enter Tryz.func155, Tryz.ntmps155
  go_wp2
  go_ret
  exact ⟨by simp; by_cases h : (x : Int) = 46 <;> simp [h], 0, rfl⟩
theorem IndexFunc_any (s : ByteArray) (w : World) : Calls Tryz.prog 154 #[.string s, .func (.func 155) #[] #[]] w fun e w' => e = .returned (.int .i64 (Lib.idxFunc (fun r => r != 46) true s)) ∧ Below w.heap.size w w' := by
  go_enter Tryz.func154, Tryz.ntmps154
  go_wp2_with fail
  refine (Tryz.strings_indexFunc _ #[] (fun args w => callFunc_enter Tryz.func155 (by kernel_rfl) rfl args w) (fun r => r != 46) true s _ (fun W x _ => first_any W x)).mono ?_
  rintro e w' ⟨rfl, hd⟩
  go_wp2
  go_ret
  exact ⟨rfl, hd⟩
theorem first_full {b : Brd} {n : Nat} (h : b.Good n) (hb : b.blank = false) : ∃ i : Nat, Lib.idxFunc (fun r => r != 46) true b.cells = (i : Int) ∧ i < 225 ∧ fullC (b.cell ((i / n : Nat) : Int) ((i % n : Nat) : Int)) = true := by
  have hcs : b.cells.size = n * n := h.cells
  have hsq := sq_mono h.hi
  have hget : ∀ i (hi : i < b.cells.size), b.cells[i] = b.cells.data.toList[i]'(by simpa using hi) := fun i hi => rfl
  have ha : ∀ i (hi : i < b.cells.size), (b.cells[i]'hi).toNat < 128 := fun i hi => by
    have hm := List.all_eq_true.1 h.okC (b.cells.data.toList[i]'(by simpa using hi)) (List.getElem_mem _)
    rw [← hget i hi] at hm
    unfold cellB smallB capB at hm
    simp only [Bool.or_eq_true, beq_iff_eq, Bool.and_eq_true, decide_eq_true_eq] at hm
    omega
  have hne : 0 < (lettersL b.cells.data.toList).length := by
    unfold Brd.blank at hb
    have := of_decide_eq_false hb
    omega
  obtain ⟨x, hx⟩ := List.exists_mem_of_length_pos hne
  unfold lettersL at hx
  obtain ⟨hx1, hx2⟩ := List.mem_filter.1 hx
  obtain ⟨j, hj, rfl⟩ := List.mem_iff_getElem.1 hx1
  have hj' : j < b.cells.size := by simpa using hj
  obtain ⟨i, hi, h46, he⟩ := idx_from b.cells ha b.cells.size 0 (by omega) ⟨j, hj', Nat.zero_le _, by rw [hget j hj']; simpa using hx2⟩
  refine ⟨i, he, by omega, ?_⟩
  refine (h.fulls_mem (s := (((i / n : Nat) : Int), ((i % n : Nat) : Int)))).1 ?_
  unfold Brd.fulls
  refine List.mem_map.2 ⟨i, List.mem_filter.2 ⟨List.mem_range.2 (by omega), ?_⟩, rfl⟩
  rw [List.getD_eq_getElem?_getD, List.getElem?_eq_getElem (by simpa using hi)]
  rw [hget i hi] at h46
  simpa using h46
theorem zero_seen : Tryz.zeroCells164 = (seenC []).toArray := by kernel_rfl
set_option maxRecDepth 100000 in
set_option maxHeartbeats 4000000 in
theorem IsJoined_any (b : Brd) (n : Nat) (w : World) (hg : b.Good n) (hf : b.fit) (hE : EnvL w) :
    Calls Tryz.prog 66 #[.agg #[.int .i64 b.size, .string b.premium, .string b.cells]] w fun e w' => e = .returned (.bool b.joined) ∧ Below w.heap.size w w' := by
  have hb : Below w.heap.size w (w.alloc (.cells #[.int .i64 b.size, .string b.premium, .string b.cells] 25)) := (Below.refl _ _).alloc (Nat.le_refl _) _
  have VB := Lib.hid (VarAt.new w 25 [.int .i64 b.size, .string b.premium, .string b.cells])
  have HE := Lib.hid hE
  have HVB := Lib.hid (fun W => ValidBoard_any b W hf)
  have hcs : b.cells.size ≤ 225 := by
    have h15 := hg.hi
    have hc : b.cells.size = n * n := hg.cells
    rw [hc]
    exact Nat.le_trans (Nat.mul_le_mul h15 h15) (by decide)
  rw [hg.ok] at HVB
  have HBL := Lib.hid (fun W e => blank_any b W hcs e)
  have HON := Lib.hid (fun W e => lettersOn_any b W hcs e)
  clear hE
  obtain ⟨j, hjn⟩ : ∃ j, b.joined = j := ⟨_, rfl⟩
  rw [hjn]
  have HJ : Hid (j = true ↔ joinedF b.cell) := Lib.hid (by rw [← hjn]; exact joined_iff)
  clear hjn
  have hmf : ∀ (fn : Fn) (first cap : Array Value) (w : World), (Instr.makeFunc fn first cap).run Tryz.prog w = .ok (.func fn first cap) w := fun _ _ _ _ => rfl
  go_enter Tryz.func66, Tryz.ntmps66
  go_upto_region 1 with fail
  generalize hw1 : w.alloc (.cells #[.int .i64 b.size, .string b.premium, .string b.cells] 25) = w1 at *
  have c0 := VB.out.cell (i := 0) rfl
  have c1 := VB.out.cell (i := 1) rfl
  have c2 := VB.out.cell (i := 2) rfl
  go_wp2_with fail
  refine (HVB.out _).mono ?_
  rintro e w2 ⟨rfl, hd⟩
  clear c0 c1 c2 hw1
  replace VB := Lib.hid (VB.out.kept hd)
  replace hb := hb.trans (hd.mono hb.size)
  clear hd HVB
  have c0 := VB.out.cell (i := 0) rfl
  have c1 := VB.out.cell (i := 1) rfl
  have c2 := VB.out.cell (i := 2) rfl
  go_wp2_with fail
  refine (HBL.out _ (HE.out.kept hb)).mono ?_
  rintro e w3 ⟨rfl, hd⟩
  clear c0 c1 c2
  replace VB := Lib.hid (VB.out.kept hd)
  replace hb := hb.trans (hd.mono hb.size)
  clear hd HBL
  cases hbl : b.blank with
  | true =>
    have hj : j = true := HJ.out.2 (fun s t h1 _ => by rw [blank_none hg hbl] at h1; cases h1)
    subst hj
    clear hbl
    go_wp2
    go_ret
    exact ⟨rfl, hb⟩
  | false =>
    obtain ⟨i, hi, hi225, hfl⟩ := first_full hg hbl
    have hlt3 := VB.out.lt
    have hns := hg.size
    have hn5 := hg.lo
    obtain ⟨B3, hB3⟩ : ∃ B3, B3 = w3.heap.size := ⟨_, rfl⟩
    obtain ⟨w4, hw4⟩ : ∃ w4, w4 = ((w3.alloc (.cells (seenC []).toArray 164)).alloc (.cells #[.int .i64 0] 3)).alloc (.cells #[.nilFunc] 165) := ⟨_, rfl⟩
    have hd : Below w3.heap.size w3 w4 := by rw [hw4]; exact (((Below.refl _ _).alloc (Nat.le_refl _) _).alloc (by simp) _).alloc (by simp; omega) _
    have V3 : Hid (VarAt w4 B3 164 (seenC [])) := by
      rw [hw4, hB3]
      exact Lib.hid (((VarAt.new w3 164 (seenC [])).kept ((Below.refl _ _).alloc (Nat.le_refl _) _)).kept ((Below.refl _ _).alloc (Nat.le_refl _) _))
    have V4 : Hid (VarAt w4 (B3 + 1) 3 [.int .i64 0]) := by
      rw [hw4, hB3]
      have := (VarAt.new (w3.alloc (.cells (seenC []).toArray 164)) 3 [.int .i64 0]).kept ((Below.refl _ _).alloc (Nat.le_refl _) (.cells #[.nilFunc] 165))
      simp only [World.size_alloc] at this
      exact Lib.hid this
    have V5 : Hid (VarAt w4 (B3 + 1 + 1) 165 [.nilFunc]) := by
      rw [hw4, hB3]
      have := VarAt.new ((w3.alloc (.cells (seenC []).toArray 164)).alloc (.cells #[.int .i64 0] 3)) 165 [.nilFunc]
      simp only [World.size_alloc] at this
      exact Lib.hid this
    replace VB := Lib.hid (VB.out.kept hd)
    replace hb := hb.trans (hd.mono hb.size)
    clear hd
    go_upto_region 8 with fail
    rw [zero_seen, ← hw4, ← hB3]
    clear hw4
    rw [← hB3] at hlt3
    clear hB3
    obtain ⟨o5, k5⟩ := V5.out.set 0 (.func (.func 152) #[] #[.pointer (some ⟨w.heap.size, 0, none⟩), .pointer (some ⟨B3, 0, none⟩), .pointer (some ⟨B3 + 1, 0, none⟩), .pointer (some ⟨B3 + 1 + 1, 0, none⟩)])
    have J := Lib.hid (JnAt.mk (b := b) (S := []) (VB.out.grown k5 (by simp; omega)) (V3.out.grown k5 (by simp; omega)) (V4.out.grown k5 (by simp)) o5)
    have hb5 := hb.grown k5 hb.size (fun q h => by cases h; omega)
    have c5 := V5.out.cell (i := 0) rfl
    have f5 := V5.out.free 0
    have hst : (store ⟨B3 + 1 + 1, 0, none⟩ (.func (.func 152) #[] #[.pointer (some ⟨w.heap.size, 0, none⟩), .pointer (some ⟨B3, 0, none⟩), .pointer (some ⟨B3 + 1, 0, none⟩), .pointer (some ⟨B3 + 1 + 1, 0, none⟩)])).run Tryz.prog w4 = .ok () (w4.setCell ⟨B3 + 1 + 1, 0, none⟩ (.func (.func 152) #[] #[.pointer (some ⟨w.heap.size, 0, none⟩), .pointer (some ⟨B3, 0, none⟩), .pointer (some ⟨B3 + 1, 0, none⟩), .pointer (some ⟨B3 + 1 + 1, 0, none⟩)])) := by
      rw [run_store _ _ _ _ _ rfl, c5, f5]
      rfl
    clear o5 k5 hb V3 V4 VB V5 c5 f5
    have hb := hb5
    clear hb5
    go_upto_region 9 with fail
    clear hst
    generalize World.setCell w4 _ _ = w5 at *
    have c2 := J.out.box.cell (i := 2) rfl
    go_wp2_with fail
    refine (IndexFunc_any b.cells _).mono ?_
    rintro e w6 ⟨rfl, hd⟩
    rw [hi]
    replace J := Lib.hid (J.out.kept hd)
    replace hb := hb.trans (hd.mono hb.size)
    clear hd c2 hi
    go_upto_region 10 with fail
    have hd : Below w6.heap.size w6 w6.drew := (Below.refl _ _).drew
    replace J := Lib.hid (J.out.kept hd)
    replace hb := hb.trans (hd.mono hb.size)
    clear hd
    have hg0 := J.out.fn.cell (i := 0) rfl
    have c0 := J.out.box.cell (i := 0) rfl
    rw [hns] at c0
    obtain ⟨q1, hq1, l1⟩ : ∃ q1, i / n = q1 ∧ q1 ≤ 225 := ⟨_, rfl, Nat.le_trans (Nat.div_le_self _ _) (by omega)⟩
    obtain ⟨q2, hq2, l2⟩ : ∃ q2, i % n = q2 ∧ q2 ≤ 225 := ⟨_, rfl, Nat.le_trans (Nat.mod_le _ _) (by omega)⟩
    have e1 : Int.tdiv (i : Int) (n : Int) = (q1 : Int) := by rw [Int.tdiv_eq_ediv_of_nonneg (by omega), ← hq1]; rfl
    have e2 : Int.tmod (i : Int) (n : Int) = (q2 : Int) := by rw [Int.tmod_eq_emod_of_nonneg (by omega), ← hq2]; rfl
    rw [hq1, hq2] at hfl
    clear hq1 hq2
    have hn0 : ¬ n = 0 := by omega
    have hn1 : ((n : Int) == 0) = false := by rw [beq_eq_false_iff_ne]; omega
    have wr1 : IntKind.i64.wrap (q1 : Int) = (q1 : Int) := IntWalk.i64_in _ (by omega)
    have wr2 : IntKind.i64.wrap (q2 : Int) = (q2 : Int) := IntWalk.i64_in _ (by omega)
    have HV := Lib.hid (fun W (hJ : JnAt W w.heap.size B3 (B3 + 1) (B3 + 1 + 1) b []) => visit_any b n hg w.heap.size w.heap.size B3 (B3 + 1) (B3 + 1 + 1) (Nat.le_refl _) hlt3 (Nat.lt_succ_self _) (Nat.lt_succ_self _) (b.fulls n).length (q1 : Int) (q2 : Int) [] W (by simp) List.nodup_nil (by simp) hJ)
    have HCT := Lib.hid (fun S (hV : Vis b.cell ((q1 : Int), (q2 : Int)) [] S) => hg.joined_count (v := ((q1 : Int), (q2 : Int))) hfl hV)
    have HJ2 := Lib.hid HJ.out
    clear hfl
    refine wp_region_still_tail 9 (by kernel_rfl) (by kernel_rfl) ?_
    simp only [List.take_succ_cons, List.take_zero, List.drop_succ_cons, List.drop_zero]
    change wpStill _ _ w6.drew (fun a' => wpList _ _ _ _ a' w6.drew) _ _
    generalize w6.drew = wd at *
    repeat still_step
    refine wpStill_nil ?_
    clear hg0 c0 e1 e2 wr1 wr2 hn0 hn1 hns
    go_wp2_with fail
    refine (HV.out wd J.out).mono ?_
    rintro e w7 ⟨rfl, S, hV, hJ, hd⟩
    have HC2 := Lib.hid (HCT.out S hV)
    replace J := Lib.hid hJ
    replace hb := hb.trans hd
    clear hV hJ hd HCT HV
    go_upto_region 11 with fail
    have HR : Hid ((((S.length : Nat) : Int) == (((mkB (lettersL b.cells.data.toList)).size : Nat) : Int)) = j) := Lib.hid (by
      rw [mkB_size, Bool.eq_iff_iff, HJ2.out, ← HC2.out, beq_iff_eq]
      omega)
    have HON2 : Hid (∀ W, EnvL W → Calls Tryz.prog 115 #[.agg #[.int .i64 b.size, .string b.premium, .string b.cells]] W fun e w' => e = .returned (.string (mkB (lettersL b.cells.data.toList))) ∧ Below W.heap.size W w') := Lib.hid (fun W e => HON.out W e)
    have HE7 := Lib.hid (HE.out.kept hb)
    clear HON HJ HJ2 HC2
    generalize mkB (lettersL b.cells.data.toList) = LL at *
    have ec := cell_regrown (J.out.cnt.cell (i := 0) rfl)
    have eb0 := cell_regrown (J.out.box.cell (i := 0) rfl)
    have eb1 := cell_regrown (J.out.box.cell (i := 1) rfl)
    have eb2 := cell_regrown (J.out.box.cell (i := 2) rfl)
    refine wp_region_quiet_below (by kernel_rfl) (by kernel_rfl) ?_
    repeat (go_big_quiet_step ((first
      | (go_at_call 115; exact Calls.regrown_of (HON2.out _ (HE7.out.kept (below_regrown _ _ _)))))))
    refine wpQuiet_nil ?_
    intro wF hw'
    have hd : Below w7.heap.size w7 wF := below_of_ex hw'
    have hb9 := hb.trans (hd.mono hb.size)
    clear hw' ec eb0 eb1 eb2 hd hb J
    go_wp2
    go_ret
    exact ⟨ret_bool HR.out, hb9⟩
end Go.Proofs.YtjdcdhhbgijaoaaGreatDoor
