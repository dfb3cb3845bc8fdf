/- Plain definitions and lemmas: the letters on a board, blank boards, plays that touch what is on a board. No condition. · Contracts: the reference's letters on a board; whether a play touches. For valid boards and plays. -/
import Derived.Test.YtjdcdhhbgijaoaaGreatDoorPlbF
import Derived.Lib.Replace
import Derived.Test.YtjdcdhhbgijaoaaGreatDoorPlaD
namespace Go.Proofs.YtjdcdhhbgijaoaaGreatDoor
open Go.ChangeShapes Go.WideShapes Go.ChangeAt Go.RowKit Go.Sort

/-! ### strings.ReplaceAll of one byte by nothing -/
theorem index_front (c : UInt8) : ∀ (a t : List UInt8), c ∉ a → Lib.index (a ++ c :: t) [c] = (a.length : Int)
  | [], t, _ => by simp [Lib.index]
  | b :: a, t, h => by
    have hb : b ≠ c := fun e => h (by rw [e]; exact List.mem_cons_self)
    have ih := index_front c a t (fun k => h (List.mem_cons_of_mem _ k))
    rw [List.cons_append]
    unfold Lib.index
    rw [ih]
    have h0 : List.isPrefixOf [c] (b :: (a ++ c :: t)) = false := by
      simp only [List.isPrefixOf, Bool.and_eq_false_iff, beq_eq_false_iff_ne]
      exact .inl (fun e => hb e.symm)
    have h1 : (((a.length : Int)) == -1) = false := by rw [beq_eq_false_iff_ne]; omega
    rw [h0, h1]
    simp
theorem index_not (c : UInt8) : ∀ (a : List UInt8), c ∉ a → Lib.index a [c] = -1
  | [], _ => by simp [Lib.index]
  | b :: a, h => by
    have hb : b ≠ c := fun e => h (by rw [e]; exact List.mem_cons_self)
    have ih := index_not c a (fun k => h (List.mem_cons_of_mem _ k))
    unfold Lib.index
    rw [ih]
    have h0 : List.isPrefixOf [c] (b :: a) = false := by
      simp only [List.isPrefixOf, Bool.and_eq_false_iff, beq_eq_false_iff_ne]
      exact .inl (fun e => hb e.symm)
    rw [h0]
    simp
theorem filter_not (c : UInt8) {s : List UInt8} (h : c ∉ s) : s.filter (fun x => x != c) = s := by
  rw [List.filter_eq_self]
  intro x hx
  rw [bne_iff_ne]
  rintro rfl
  exact h hx
theorem replaceK_drop (c : UInt8) : ∀ (k : Nat) (s : List UInt8), s.count c ≤ k → Lib.replaceK [c] [] k s = s.filter (fun x => x != c)
  | 0, s, h => by
    have : c ∉ s := List.count_eq_zero.1 (by omega)
    rw [filter_not c this]
    rfl
  | k + 1, s, h => by
    by_cases hm : c ∈ s
    · obtain ⟨a, t, rfl, ha⟩ := List.eq_append_cons_of_mem hm
      have hk : t.count c ≤ k := by
        rw [List.count_append, List.count_cons_self] at h
        omega
      rw [Lib.replaceK_hit [c] [] k _ a.length (index_front c a t ha)]
      have e1 : (a ++ c :: t).take a.length = a := by simp
      have e2 : (a ++ c :: t).drop (a.length + [c].length) = t := by simp
      rw [e1, e2, replaceK_drop c k t hk, List.filter_append, filter_not c ha]
      simp
    · unfold Lib.replaceK
      rw [index_not c s hm, filter_not c hm]
      rfl
theorem replaceAll_drop (c : UInt8) (s : List UInt8) : Lib.replaceAll s [c] [] = s.filter (fun x => x != c) := by
  unfold Lib.replaceAll Lib.replace Lib.replaceNum
  rw [if_neg (by simp), if_pos (.inl (by omega)), Lib.count_one]
  exact replaceK_drop c _ _ (Nat.le_refl _)

/-! ### Blank boards -/
def lettersL (l : List UInt8) : List UInt8 := l.filter (fun x => x != 46)
theorem lettersL_snoc (l : List UInt8) (x : UInt8) : lettersL (l ++ [x]) = lettersL l ++ if x != 46 then [x] else [] := by
  unfold lettersL
  rw [List.filter_append]
  congr 1
  simp only [List.filter_cons, List.filter_nil]
def Brd.blank (b : Brd) : Bool := decide ((lettersL b.cells.data.toList).length = 0)
theorem blank_all {b : Brd} (h : b.blank = true) : ∀ x ∈ b.cells.data.toList, x = 46 := by
  intro x hx
  have h1 : lettersL b.cells.data.toList = [] := List.length_eq_zero_iff.1 (of_decide_eq_true h)
  have h2 := List.filter_eq_nil_iff.1 h1 x hx
  simpa using h2
/-- whether a valid play touches what is on the board, or the middle of a blank one -/
def Brd.touch (b : Brd) (p : Ply) : Bool :=
  if b.blank then decide (p.r = b.size / 2) && (decide (p.c ≤ b.size / 2) && decide (b.size / 2 < p.c + p.word.size))
  else decide ((b.fresh p).length < p.word.size) || decide (1 < (b.words p).length)
theorem PGood.blank_fresh {b : Brd} {p : Ply} {n : Nat} (h : PGood b p n) (hb : b.blank = true) : b.fresh p = List.range p.word.size := by
  unfold Brd.fresh freshL
  rw [List.filter_eq_self]
  intro i hi
  have hi := List.mem_range.1 hi
  rw [← h.good.sq p i]
  obtain ⟨h1, h2⟩ := h.sq_in hi
  obtain ⟨r, hr⟩ := Int.eq_ofNat_of_zero_le h1.1
  obtain ⟨c, hc⟩ := Int.eq_ofNat_of_zero_le h2.1
  rw [hr, hc]
  have hl := h.good.get (r := r) (c := c) (by omega) (by omega)
  rw [h.good.cell_in (by omega) (by omega) rfl hl]
  have := blank_all hb b.cells[r * n + c] (by rw [← bytes_get b.cells _ hl]; exact List.getElem_mem _)
  rw [this]
  rfl
/-- one of a valid play's new squares is the middle of a blank board -/
theorem PGood.middle {b : Brd} {p : Ply} {n : Nat} (h : PGood b p n) (hb : b.blank = true) : ((b.fresh p).any fun i => decide (sqOf p i = (b.size / 2, b.size / 2))) = b.touch p := by
  unfold Brd.touch
  rw [if_pos hb, h.blank_fresh hb, Bool.eq_iff_iff]
  simp only [List.any_eq_true, List.mem_range, decide_eq_true_eq, Bool.and_eq_true, sqOf, Prod.mk.injEq]
  generalize b.size / 2 = m
  unfold Ply.sr Ply.sc Ply.r Ply.c
  cases p.down with
  | false =>
    simp only [Bool.false_eq_true, if_false]
    constructor
    · rintro ⟨i, h1, h2, h3⟩; omega
    · rintro ⟨h1, h2, h3⟩; exact ⟨(m - p.col).toNat, by omega, by omega, by omega⟩
  | true =>
    simp only [if_true]
    constructor
    · rintro ⟨i, h1, h2, h3⟩; omega
    · rintro ⟨h1, h2, h3⟩; exact ⟨(m - p.row).toNat, by omega, by omega, by omega⟩
def Brd.touchPlay (b : Brd) (p : Ply) : Bool := b.okPlay p && b.touch p
theorem touch_blank {b : Brd} {p : Ply} (h : b.blank = true) : b.touch p = (decide (p.r = b.size / 2) && (decide (p.c ≤ b.size / 2) && decide (b.size / 2 < p.c + p.word.size))) := by unfold Brd.touch; rw [if_pos h]
theorem touch_full {b : Brd} {p : Ply} (h : b.blank = false) : b.touch p = (decide ((b.fresh p).length < p.word.size) || decide (1 < (b.words p).length)) := by unfold Brd.touch; rw [h]; rfl
end Go.Proofs.YtjdcdhhbgijaoaaGreatDoor

namespace Go.Proofs.YtjdcdhhbgijaoaaGreatDoor
open Go.ChangeShapes Go.WideShapes Go.ChangeAt Go.RowKit Go.Sort

theorem take_byte {s : ByteArray} {k : Nat} (h : k < s.size) : s.data.toList.take (k + 1) = s.data.toList.take k ++ [s[k]] := by
  have hl : k < s.data.toList.length := by simpa using h
  rw [List.take_succ_eq_append_getElem hl, bytes_get s k h]
theorem lettersL_len (l : List UInt8) : (lettersL l).length ≤ l.length := List.length_filter_le _ _
set_option maxRecDepth 100000 in
set_option maxHeartbeats 2000000 in
theorem l11Letters_any (b : Brd) (g o : Nat) (w : World) (hg : BAt w g o b) (hs : b.cells.size ≤ 225) :
    Calls Tryz.prog 117 #[.pointer (some ⟨g, o, none⟩)] w (StrPost w (lettersL b.cells.data.toList)) := by
  obtain ⟨i0, hi0, hi1, hi2, hi3⟩ := info_parts infoByte
  have hlt := hg.lt
  have hd0 : Below w.heap.size w (w.alloc (.cells #[] 5)) := (Below.refl _ _).alloc (Nat.le_refl _) _
  obtain ⟨lt, hltd⟩ : ∃ lt : Nat → List UInt8, ∀ k, lt k = lettersL (b.cells.data.toList.take k) := ⟨_, fun _ => rfl⟩
  have HLL : Hid (∀ k, (lt k).length ≤ k) := Lib.hid (fun k => by
    rw [hltd]
    have h1 := lettersL_len (b.cells.data.toList.take k)
    have h2 : (b.cells.data.toList.take k).length ≤ k := by rw [List.length_take]; omega
    omega)
  have HYES : Hid (∀ k (h : k < b.cells.size), ((b.cells[k].toNat : Int) == 46) = false → lt (k + 1) = lt k ++ [b.cells[k]]) := Lib.hid (fun k h e => by
    rw [hltd, hltd, take_byte h, lettersL_snoc, if_pos (by rw [bne_iff_ne]; exact int_not46 e)])
  have HNO : Hid (∀ k (h : k < b.cells.size), ((b.cells[k].toNat : Int) == 46) = true → lt (k + 1) = lt k) := Lib.hid (fun k h e => by
    rw [hltd, hltd, take_byte h, lettersL_snoc, if_neg (by rw [bne_iff_ne]; exact fun c => c (by have := int_46 e; simpa using this)), List.append_nil])
  have HEND : Hid (lt b.cells.size = lettersL b.cells.data.toList) := Lib.hid (by rw [hltd, List.take_of_length_le (by simp)])
  have HO : Hid ((w.alloc (.cells #[] 5)).ownsRow w.heap.size 5 1 (.slice (some ⟨w.heap.size, 0, none⟩) (lt 0).length 0) (lt 0).length ((lt 0).flatMap U8.enc)) := Lib.hid (by
    rw [show lt 0 = [] from by rw [hltd]; rfl]
    exact World.ownsRow_made (base := w.heap.size) (e := 5) (size := 1) w #[] 0 (Nat.le_refl _) (by unfold maxLen; omega) rfl)
  have hl0 : (lt 0).length = 0 := by have := HLL.out 0; omega
  have HG := Lib.hid (hg.kept hd0)
  have hb := hd0
  rw [← HEND.out]
  clear hg hltd hd0 HEND
  go_enter Tryz.func117, Tryz.ntmps117
  go_wp2_with fail
  go_loopw [3, 4] (fun ov iv wr => ∃ (k g1 cap : Nat), k ≤ b.cells.size ∧ iv = .int .i64 k ∧ ov = .slice (some ⟨g1, 0, none⟩) (lt k).length cap ∧ Hid (wr.ownsRow w.heap.size 5 1 (.slice (some ⟨g1, 0, none⟩) (lt k).length cap) (lt k).length ((lt k).flatMap U8.enc)) ∧ Hid (BAt wr g o b) ∧ Below w.heap.size w wr) (fun _ iv _ => b.cells.size - (intOf iv).toNat)
  case atStart => exact ⟨0, _, 0, Nat.zero_le _, rfl, by rw [hl0], HO, HG, hb⟩
  case round =>
    clear HO HG hb hl0
    obtain ⟨k, g1, cap, hk, rfl, rfl, HO, HG, hb⟩ := hrel
    have hll := HLL.out k
    have hz2 := hb.size
    obtain ⟨q0, q1, q2⟩ := HG.out
    by_cases hk2 : k < b.cells.size
    · have HY := Lib.hid (HYES.out k hk2)
      have HN := Lib.hid (HNO.out k hk2)
      generalize lt k = fr at *
      cases e1 : ((b.cells[k].toNat : Int) == 46) with
      | true =>
        have HFE := Lib.hid (HN.out e1)
        have HO7 : Hid (wr.ownsRow w.heap.size 5 1 (.slice (some ⟨g1, 0, none⟩) (lt (k + 1)).length cap) (lt (k + 1)).length ((lt (k + 1)).flatMap U8.enc)) := Lib.hid (by rw [HFE.out]; exact HO.out)
        clear HO HY HN
        go_wp2
        go_roundw
        case rel => exact ⟨k + 1, g1, cap, by omega, by go_num, by rw [HFE.out], HO7, HG, hb⟩
        case measure => simp [intOf]; omega
      | false =>
        have HFE := Lib.hid (HY.out e1)
        generalize hfr : fr.length = m at *
        have hx : Below wr.heap.size wr (wr.alloc (.cells #[.int .u8 ((b.cells[k].toNat : Int))] 5)) := (Below.refl _ _).alloc (Nat.le_refl _) _
        have KN := Lib.hid (new_byte wr (b.cells[k]) 5)
        have HLE : Hid ((lt (k + 1)).length = m + 1) := Lib.hid (by rw [HFE.out]; simp [hfr])
        clear HY HN
        have hz3 : w.heap.size ≤ wr.heap.size := hb.size
        replace HO := Lib.hid (own_below HO.out hx)
        replace HG := Lib.hid (HG.out.kept hx)
        have q2 := HG.out.2.2
        replace hb := hb.trans (hx.mono hb.size)
        go_wp2_with (at_builtin; go_must (refine wpList_append_lies _ rfl (.tmp 22) (.tmp 29) 22 rfl w.heap.size 5 i0 _ 1 1 Tryz.underlying22 hi0 hi1 hi2 hi3 rfl (by decide) _ m (fr.flatMap U8.enc) (by rfl) HO.out ⟨wr.heap.size, 0, none⟩ 1 1 (U8.enc (b.cells[k])) (by rfl) rfl KN.out (u8_one1 (b.cells[k])) (by decide) ?c1 ?c2 ?c3 _ rfl ?_))
        case c1 => unfold maxLen; omega
        case c2 => omega
        case c3 => (first | omega | (simp only [World.size_alloc]; omega))
        intro g7 cap7 w7 hown hgr hwh hlt7
        have hb7 := hb.grown hgr hb.size (fun q e => by have := (HO.out.lt q e).1; omega)
        have HO7 : Hid (w7.ownsRow w.heap.size 5 1 (.slice (some ⟨g7, 0, none⟩) (lt (k + 1)).length cap7) (lt (k + 1)).length ((lt (k + 1)).flatMap U8.enc)) := Lib.hid (by rw [HLE.out, HFE.out, snoc_flat U8.enc]; exact hown)
        have HG7 := Lib.hid (HG.out.grown hgr (own_ne HO.out hlt))
        clear hown hgr hwh KN HO hb HG
        go_wp2
        go_roundw
        case rel => exact ⟨k + 1, g7, cap7, by omega, by go_num, by rw [HLE.out], HO7, HG7, hb7⟩
        case measure => simp [intOf]; omega
    · obtain rfl : k = b.cells.size := by omega
      have hcv := own_bytes HO.out rfl
      generalize lt b.cells.size = fr at *
      clear HO HYES HNO HLL
      go_wp2
      go_ret
      exact ⟨rfl, hb⟩
theorem empty_cmp (s : ByteArray) : s.toList.isEmpty = decide (s.size = 0) := by
  rw [Bool.eq_iff_iff, List.isEmpty_iff, decide_eq_true_eq, ByteArray.toList_eq]
  constructor
  · intro h
    have := congrArg List.length h
    simpa using this
  · intro h
    have h1 : s.data.toList.length = 0 := by simpa using h
    exact List.length_eq_zero_iff.1 h1
set_option maxRecDepth 100000 in
set_option maxHeartbeats 4000000 in
theorem l12Touches_any (b : Brd) (p : Ply) (n : Nat) (g o : Nat) (w : World) (hg : BAt w g o b) (hp : PGood b p n) :
    Calls Tryz.prog 82 #[.pointer (some ⟨g, o, none⟩), .agg #[.int .i64 p.row, .int .i64 p.col, .bool p.down, .string p.word]] w fun e w' => e = .returned (.bool (b.touch p)) ∧ Below w.heap.size w w' := by
  have hlt := hg.lt
  have hb : Below w.heap.size w (w.alloc (.cells #[.int .i64 p.row, .int .i64 p.col, .bool p.down, .string p.word] 30)) := (Below.refl _ _).alloc (Nat.le_refl _) _
  have V0 := Lib.hid (VarAt.new w 30 [.int .i64 p.row, .int .i64 p.col, .bool p.down, .string p.word])
  have HG := Lib.hid (hg.kept hb)
  clear hg
  have hn15 := hp.good.hi
  have hs12 := hp.twelve
  have HGD := Lib.hid hp.good
  have hbs := hp.good.size
  have hcs : b.cells.size ≤ 225 := by have := hp.good.cells; have := sq_mono hn15; omega
  have HBL := Lib.hid (touch_blank (b := b) (p := p))
  have HFU := Lib.hid (touch_full (b := b) (p := p))
  have HR0 := Lib.hid (Ply.flat_row p)
  have HC0 := Lib.hid (Ply.flat_col p)
  have hrr : 0 ≤ p.flat.row ∧ p.flat.row < n := by rw [Ply.flat_row]; exact ⟨hp.r0, hp.r1⟩
  have hcr : 0 ≤ p.flat.col ∧ p.flat.col + p.word.size ≤ n := by rw [Ply.flat_col]; exact ⟨hp.c0, hp.c1⟩
  rw [← HR0.out, ← HC0.out] at HBL
  have HWN : Hid ((b.words p).length = (formB (b.view p) p.r p.c p.word (b.fresh p)).length) := Lib.hid (by rw [words_form, List.length_map])
  rw [HWN.out] at HFU
  have HFO : Hid (∀ x W, BAt W x 0 (b.flat p.down) → Calls Tryz.prog 175 #[.pointer (some ⟨x, 0, none⟩), .agg #[.int .i64 p.flat.row, .int .i64 p.flat.col, .bool p.flat.down, .string p.word]] W (TextsPost W (formB (b.view p) p.r p.c p.word (b.fresh p)))) := Lib.hid (fun x W h => by
    have := l12Formed_any (b.flat p.down) n p.flat.row p.flat.col p.flat.down p.word x 0 W (hp.good.flat p.down) h hp.twelve (by rw [Ply.flat_row]; exact hp.r0) (by rw [Ply.flat_row]; exact hp.r1) (by rw [Ply.flat_col]; exact hp.c0) (by rw [Ply.flat_col]; exact hp.c1)
    rw [Ply.flat_row, Ply.flat_col] at this ⊢
    exact this)
  have HFR : Hid (∀ x W, BAt W x 0 (b.flat p.down) → Calls Tryz.prog 98 #[.pointer (some ⟨x, 0, none⟩), .agg #[.int .i64 p.flat.row, .int .i64 p.flat.col, .bool p.flat.down, .string p.word]] W (NatsPost W (b.fresh p))) := Lib.hid (fun x W h => by
    have := l12Fresh_any (b.flat p.down) n p.flat.row p.flat.col p.flat.down p.word x 0 W (hp.good.flat p.down) h hp.twelve (by rw [Ply.flat_row]; exact hp.r0) (by rw [Ply.flat_row]; exact hp.r1) (by rw [Ply.flat_col]; exact hp.c0) (by rw [Ply.flat_col]; exact hp.c1)
    rw [Ply.flat_row, Ply.flat_col] at this ⊢
    exact this)
  have HLE : Hid (∀ x W, BAt W x o b → Calls Tryz.prog 117 #[.pointer (some ⟨x, o, none⟩)] W (StrPost W (lettersL b.cells.data.toList))) := Lib.hid (fun x W h => l11Letters_any b x o W h hcs)
  have hxl := formB_len (b.view p) p.r p.c p.word (b.fresh p)
  have hfl : (b.fresh p).length ≤ p.word.size := freshL_len _ _ _ _
  have HBD : Hid (b.blank = decide ((mkB (lettersL b.cells.data.toList)).size = 0)) := Lib.hid (by unfold Brd.blank; rw [mkB_size])
  clear HR0 HC0 HWN hp hcs
  generalize b.touch p = ans at *
  generalize b.blank = bl at *
  generalize lettersL b.cells.data.toList = ll at *
  generalize formB (b.view p) p.r p.c p.word (b.fresh p) = xs at *
  generalize b.fresh p = fr at *
  go_enter Tryz.func82, Tryz.ntmps82
  go_upto_region 1 with fail
  generalize w.alloc (.cells #[.int .i64 p.row, .int .i64 p.col, .bool p.down, .string p.word] 30) = w1 at *
  have c0 := V0.out.cell (i := 0) rfl
  have c1 := V0.out.cell (i := 1) rfl
  have c2 := V0.out.cell (i := 2) rfl
  have c3 := V0.out.cell (i := 3) rfl
  go_wp2_with fail
  refine (l12Flat_any b p n g o _ HGD.out HG.out).mono ?_
  rintro e w4 ⟨rfl, hd⟩
  unfold flatV
  clear c0 c1 c2 c3
  replace hb := hb.trans (hd.mono hb.size)
  replace HG := Lib.hid (HG.out.kept hd)
  clear hd
  generalize b.flat p.down = f at *
  generalize p.flat.row = fr0 at *
  generalize p.flat.col = fc at *
  generalize p.flat.down = fd at *
  have HF : Hid (BAt ((w4.alloc (.cells #[.int .i64 f.size, .string f.premium, .string f.cells] 25)).alloc (.cells #[.int .i64 fr0, .int .i64 fc, .bool fd, .string p.word] 30)) w4.heap.size 0 f) := Lib.hid ((BAt.new w4 f 25).kept ((Below.refl _ _).alloc (Nat.le_refl _) _))
  have HQ : Hid (VarAt ((w4.alloc (.cells #[.int .i64 f.size, .string f.premium, .string f.cells] 25)).alloc (.cells #[.int .i64 fr0, .int .i64 fc, .bool fd, .string p.word] 30)) (w4.heap.size + 1) 30 [.int .i64 fr0, .int .i64 fc, .bool fd, .string p.word]) := Lib.hid (by
    have := VarAt.new (w4.alloc (.cells #[.int .i64 f.size, .string f.premium, .string f.cells] 25)) 30 [.int .i64 fr0, .int .i64 fc, .bool fd, .string p.word]
    simp only [World.size_alloc] at this
    exact this)
  have hd : Below w4.heap.size w4 ((w4.alloc (.cells #[.int .i64 f.size, .string f.premium, .string f.cells] 25)).alloc (.cells #[.int .i64 fr0, .int .i64 fc, .bool fd, .string p.word] 30)) := ((Below.refl _ _).alloc (Nat.le_refl _) _).alloc (by simp) _
  replace hb := hb.trans (hd.mono hb.size)
  replace HG := Lib.hid (HG.out.kept hd)
  clear hd
  go_upto_region 2 with fail
  generalize (w4.alloc (.cells #[.int .i64 f.size, .string f.premium, .string f.cells] 25)).alloc (.cells #[.int .i64 fr0, .int .i64 fc, .bool fd, .string p.word] 30) = w5 at *
  go_wp2_with fail
  refine (HLE.out _ _ HG.out).mono ?_
  rintro e w6 ⟨rfl, hd⟩
  replace hb := hb.trans (hd.mono hb.size)
  replace HG := Lib.hid (HG.out.kept hd)
  replace HF := Lib.hid (HF.out.kept hd)
  replace HQ := Lib.hid (HQ.out.kept hd)
  clear hd
  generalize mkB ll = sl at *
  have hsc := empty_cmp sl
  rw [← HBD.out] at hsc
  cases hbl : bl with
  | true =>
    have HB := Lib.hid (HBL.out hbl)
    rw [hbl] at hsc
    clear HBL HFU HBD HFO HFR HLE HGD hbl
    obtain ⟨q0, q1, q2⟩ := HG.out
    have c0 := HQ.out.cell (i := 0) rfl
    have c1 := HQ.out.cell (i := 1) rfl
    have c3 := HQ.out.cell (i := 3) rfl
    go_upto_region 4 with fail
    clear q0 q1 q2
    rw [hbs] at HB
    generalize hmm : (n : Int) / 2 = m at *
    have hm15 : 0 ≤ m ∧ m ≤ 15 := by omega
    clear hmm hbs
    have wr1 : IntKind.i64.wrap (fc + (p.word.size : Int)) = fc + (p.word.size : Int) := IntWalk.i64_in _ (by omega)
    by_cases e1 : fr0 = m
    · by_cases e2 : fc ≤ m
      · by_cases e3 : m < fc + (p.word.size : Int)
        · have HN : Hid (ans = true) := Lib.hid (by rw [HB.out, decide_eq_true e1, decide_eq_true e2, decide_eq_true e3]; rfl)
          have e1' : (fr0 == m) = true := beq_iff_eq.2 e1
          clear HB e1
          go_wp2
          go_ret
          exact ⟨ret_bool (by rw [HN.out] <;> (first | rfl | simp [*])), hb⟩
        · have HN : Hid (ans = false) := Lib.hid (by rw [HB.out, decide_eq_false e3]; simp)
          have e1' : (fr0 == m) = true := beq_iff_eq.2 e1
          clear HB e1
          go_wp2
          go_ret
          exact ⟨ret_bool (by rw [HN.out] <;> (first | rfl | simp [*])), hb⟩
      · have HN : Hid (ans = false) := Lib.hid (by rw [HB.out, decide_eq_false e2]; simp)
        have e1' : (fr0 == m) = true := beq_iff_eq.2 e1
        clear HB e1
        go_wp2
        go_ret
        exact ⟨ret_bool (by rw [HN.out] <;> (first | rfl | simp [*])), hb⟩
    · have HN : Hid (ans = false) := Lib.hid (by rw [HB.out, decide_eq_false e1]; simp)
      have e1' : (fr0 == m) = false := beq_eq_false_iff_ne.2 e1
      clear HB e1
      go_wp2
      go_ret
      exact ⟨ret_bool (by rw [HN.out] <;> (first | rfl | simp [*])), hb⟩
  | false =>
    have HB := Lib.hid (HFU.out hbl)
    rw [hbl] at hsc
    clear HBL HFU HBD HLE HGD hbl
    have hb2 := hb
    by_cases e1 : fr.length < p.word.size
    · have HN : Hid (ans = true) := Lib.hid (by rw [HB.out, decide_eq_true e1]; rfl)
      clear HB HFO
      go_upto_region 5 with fail
      have hd : Below w6.heap.size w6 w6.drew := (Below.refl _ _).drew
      replace hb := hb.trans (hd.mono hb.size)
      replace HG := Lib.hid (HG.out.kept hd)
      replace HF := Lib.hid (HF.out.kept hd)
      replace HQ := Lib.hid (HQ.out.kept hd)
      clear hd
      clear hs12 hbs hfl hxl hn15 hrr hcr
      have c0 := HQ.out.cell (i := 0) rfl
      have c1 := HQ.out.cell (i := 1) rfl
      have c2 := HQ.out.cell (i := 2) rfl
      have c3 := HQ.out.cell (i := 3) rfl
      go_region_with
        (go_at_call 98; refine (HFR.out _ _ HF.out).mono ?_; rintro e wq ⟨g1, cx, rfl, hx0, hd⟩; clear hx0; replace hb := hb.trans (hd.mono hb.size); replace c3 := cell_kept c3 hd; clear hd)
      all_goals
        go_wp2
        go_ret
        exact ⟨ret_bool HN.out.symm, hb⟩
    · have e4 : decide (fr.length < p.word.size) = false := decide_eq_false e1
      have e5 : decide ((fr.length : Int) < (p.word.size : Int)) = false := decide_eq_false (by omega)
      have HN : Hid (ans = decide (1 < xs.length)) := Lib.hid (by rw [HB.out, e4, Bool.false_or])
      clear HB e1
      go_upto_region 5 with fail
      have hd : Below w6.heap.size w6 w6.drew := (Below.refl _ _).drew
      replace hb := hb.trans (hd.mono hb.size)
      replace HG := Lib.hid (HG.out.kept hd)
      replace HF := Lib.hid (HF.out.kept hd)
      replace HQ := Lib.hid (HQ.out.kept hd)
      clear hd
      clear hs12 hbs hfl hxl hn15 hrr hcr
      have c0 := HQ.out.cell (i := 0) rfl
      have c1 := HQ.out.cell (i := 1) rfl
      have c2 := HQ.out.cell (i := 2) rfl
      have c3 := HQ.out.cell (i := 3) rfl
      go_region_with
        (first | (go_at_call 98; refine (HFR.out _ _ HF.out).mono ?_; rintro e wq ⟨g1, cx, rfl, hx0, hd⟩; clear hx0; replace hb := hb.trans (hd.mono hb.size); replace c0 := cell_kept c0 hd; replace c1 := cell_kept c1 hd; replace c2 := cell_kept c2 hd; replace c3 := cell_kept c3 hd; replace HF := Lib.hid (HF.out.kept hd); clear hd) | (go_at_call 175; refine (HFO.out _ _ HF.out).mono ?_; rintro e wq ⟨g1, cx, rfl, hx0, hd⟩; clear hx0; replace hb := hb.trans (hd.mono hb.size); clear hd))
      all_goals
        go_wp2
        go_ret
        exact ⟨ret_bool (by rw [HN.out]; exact decide_eq_decide.2 (by omega)), hb⟩
theorem touchPlay_no {b : Brd} {p : Ply} (h : b.okPlay p = false) : b.touchPlay p = false := by unfold Brd.touchPlay; rw [h]; rfl
theorem touchPlay_yes {b : Brd} {p : Ply} (h : b.okPlay p = true) : b.touchPlay p = b.touch p := by unfold Brd.touchPlay; rw [h]; rfl
set_option maxRecDepth 100000 in
set_option maxHeartbeats 2000000 in
theorem specTouchesBoard_any (b : Brd) (p : Ply) (w : World) (hf : b.fit) (hp : p.fit) :
    Calls Tryz.prog 17 #[.agg #[.int .i64 b.size, .string b.premium, .string b.cells], .agg #[.int .i64 p.row, .int .i64 p.col, .bool p.down, .string p.word]] w fun e w' => e = .returned (.bool (b.touchPlay p)) ∧ Below w.heap.size w w' := by
  obtain ⟨w2, hw2⟩ : ∃ w2, w2 = (w.alloc (.cells #[.int .i64 b.size, .string b.premium, .string b.cells] 25)).alloc (.cells #[.int .i64 p.row, .int .i64 p.col, .bool p.down, .string p.word] 30) := ⟨_, rfl⟩
  have hb : Below w.heap.size w w2 := by rw [hw2]; exact ((Below.refl _ _).alloc (Nat.le_refl _) _).alloc (by simp) _
  have HG : Hid (BAt w2 w.heap.size 0 b) := by
    rw [hw2]
    exact Lib.hid ((BAt.new w b 25).kept ((Below.refl _ _).alloc (Nat.le_refl _) _))
  have V0 : Hid (VarAt w2 (w.heap.size + 1) 30 [.int .i64 p.row, .int .i64 p.col, .bool p.down, .string p.word]) := by
    rw [hw2]
    have := VarAt.new (w.alloc (.cells #[.int .i64 b.size, .string b.premium, .string b.cells] 25)) 30 [.int .i64 p.row, .int .i64 p.col, .bool p.down, .string p.word]
    simp only [World.size_alloc] at this
    exact Lib.hid this
  have HW2 := Lib.hid hw2
  clear hw2
  cases hk : b.okPlay p with
  | false =>
    have HN := Lib.hid (touchPlay_no hk)
    go_enter Tryz.func17, Tryz.ntmps17
    go_upto_region 1 with fail
    rw [← HW2.out]
    clear HW2
    have c0 := V0.out.cell (i := 0) rfl
    have c1 := V0.out.cell (i := 1) rfl
    have c2 := V0.out.cell (i := 2) rfl
    have c3 := V0.out.cell (i := 3) rfl
    go_wp2_with fail
    refine (l12Ok_any b p w.heap.size 0 _ HG.out hf hp).mono ?_
    rintro e w3 ⟨rfl, hd⟩
    rw [hk]
    have hb2 := hb.trans (hd.mono hb.size)
    clear hd hk
    go_wp2
    go_ret
    exact ⟨ret_bool HN.out.symm, hb2⟩
  | true =>
    obtain ⟨n, hpg⟩ := okPlay_good hk
    have HPG := Lib.hid hpg
    have HN := Lib.hid (touchPlay_yes hk)
    clear hpg
    go_enter Tryz.func17, Tryz.ntmps17
    go_upto_region 1 with fail
    rw [← HW2.out]
    clear HW2
    have c0 := V0.out.cell (i := 0) rfl
    have c1 := V0.out.cell (i := 1) rfl
    have c2 := V0.out.cell (i := 2) rfl
    have c3 := V0.out.cell (i := 3) rfl
    go_wp2_with fail
    refine (l12Ok_any b p w.heap.size 0 _ HG.out hf hp).mono ?_
    rintro e w3 ⟨rfl, hd⟩
    rw [hk]
    clear hk
    replace hb := hb.trans (hd.mono hb.size)
    replace c0 := cell_kept c0 hd
    replace c1 := cell_kept c1 hd
    replace c2 := cell_kept c2 hd
    replace c3 := cell_kept c3 hd
    replace HG := Lib.hid (HG.out.kept hd)
    clear hd
    go_wp2_with fail
    refine (l12Touches_any b p n w.heap.size 0 _ HG.out HPG.out).mono ?_
    rintro e w4 ⟨rfl, hd⟩
    have hb2 := hb.trans (hd.mono hb.size)
    clear hd c0 c1 c2 c3
    go_wp2
    go_ret
    exact ⟨ret_bool HN.out.symm, hb2⟩
end Go.Proofs.YtjdcdhhbgijaoaaGreatDoor
