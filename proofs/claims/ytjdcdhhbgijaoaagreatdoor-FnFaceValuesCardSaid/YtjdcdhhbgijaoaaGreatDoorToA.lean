/- Contracts: the reference's taking of tiles from a pile, the tiles of letters, the letters  · Plain definitions and lemmas: the letters on a board, blank boards, plays that touch what  -/
import Derived.Test.YtjdcdhhbgijaoaaGreatDoorLgD
import Derived.Test.YtjdcdhhbgijaoaaGreatDoorPlaD
import Derived.Test.YtjdcdhhbgijaoaaGreatDoorScE
import Derived.Test.YtjdcdhhbgijaoaaGreatDoorPlbF
import Derived.Lib.Replace
namespace Go.Proofs.YtjdcdhhbgijaoaaGreatDoor
open Go.ChangeShapes Go.WideShapes Go.ChangeAt Go.RowKit Go.Sort

/-! ### Plain -/
def placedB (word : ByteArray) (fr : List Nat) : List UInt8 := fr.map fun i => word.data.toList.getD i 0
theorem placedB_take {word : ByteArray} {fr : List Nat} {k : Nat} (hk : k < fr.length) (hw : fr[k] < word.size) : placedB word (fr.take (k + 1)) = placedB word (fr.take k) ++ [word[fr[k]]] := by
  unfold placedB
  rw [List.take_succ_eq_append_getElem hk, List.map_append]
  simp only [List.map_cons, List.map_nil]
  rw [u8_byte hw]
theorem placedB_len (word : ByteArray) (fr : List Nat) : (placedB word fr).length = fr.length := by simp [placedB]
end Go.Proofs.YtjdcdhhbgijaoaaGreatDoor
namespace Go.Proofs.YtjdcdhhbgijaoaaGreatDoor
open Go.ChangeShapes Go.WideShapes Go.ChangeAt Go.RowKit Go.Sort

/-! ### strings.ReplaceAll of one byte by nothing -/
theorem index_front (c : UInt8) : ∀ (a t : List UInt8), c ∉ a → Lib.index (a ++ c :: t) [c] = (a.length : Int)
  | [], t, _ => by simp [Lib.index]
  | b :: a, t, h => by
    have hb : b ≠ c := fun e => h (by rw [e]; exact List.mem_cons_self)
    have ih := index_front c a t (fun k => h (List.mem_cons_of_mem _ k))
    rw [List.cons_append]
    unfold Lib.index
    rw [ih]
    have h0 : List.isPrefixOf [c] (b :: (a ++ c :: t)) = false := by
      simp only [List.isPrefixOf, Bool.and_eq_false_iff, beq_eq_false_iff_ne]
      exact .inl (fun e => hb e.symm)
    have h1 : (((a.length : Int)) == -1) = false := by rw [beq_eq_false_iff_ne]; omega
    rw [h0, h1]
    simp
theorem index_not (c : UInt8) : ∀ (a : List UInt8), c ∉ a → Lib.index a [c] = -1
  | [], _ => by simp [Lib.index]
  | b :: a, h => by
    have hb : b ≠ c := fun e => h (by rw [e]; exact List.mem_cons_self)
    have ih := index_not c a (fun k => h (List.mem_cons_of_mem _ k))
    unfold Lib.index
    rw [ih]
    have h0 : List.isPrefixOf [c] (b :: a) = false := by
      simp only [List.isPrefixOf, Bool.and_eq_false_iff, beq_eq_false_iff_ne]
      exact .inl (fun e => hb e.symm)
    rw [h0]
    simp
theorem filter_not (c : UInt8) {s : List UInt8} (h : c ∉ s) : s.filter (fun x => x != c) = s := by
  rw [List.filter_eq_self]
  intro x hx
  rw [bne_iff_ne]
  rintro rfl
  exact h hx
theorem replaceK_drop (c : UInt8) : ∀ (k : Nat) (s : List UInt8), s.count c ≤ k → Lib.replaceK [c] [] k s = s.filter (fun x => x != c)
  | 0, s, h => by
    have : c ∉ s := List.count_eq_zero.1 (by omega)
    rw [filter_not c this]
    rfl
  | k + 1, s, h => by
    by_cases hm : c ∈ s
    · obtain ⟨a, t, rfl, ha⟩ := List.eq_append_cons_of_mem hm
      have hk : t.count c ≤ k := by
        rw [List.count_append, List.count_cons_self] at h
        omega
      rw [Lib.replaceK_hit [c] [] k _ a.length (index_front c a t ha)]
      have e1 : (a ++ c :: t).take a.length = a := by simp
      have e2 : (a ++ c :: t).drop (a.length + [c].length) = t := by simp
      rw [e1, e2, replaceK_drop c k t hk, List.filter_append, filter_not c ha]
      simp
    · unfold Lib.replaceK
      rw [index_not c s hm, filter_not c hm]
      rfl
theorem replaceAll_drop (c : UInt8) (s : List UInt8) : Lib.replaceAll s [c] [] = s.filter (fun x => x != c) := by
  unfold Lib.replaceAll Lib.replace Lib.replaceNum
  rw [if_neg (by simp), if_pos (.inl (by omega)), Lib.count_one]
  exact replaceK_drop c _ _ (Nat.le_refl _)

/-! ### Blank boards -/
def lettersL (l : List UInt8) : List UInt8 := l.filter (fun x => x != 46)
theorem lettersL_snoc (l : List UInt8) (x : UInt8) : lettersL (l ++ [x]) = lettersL l ++ if x != 46 then [x] else [] := by
  unfold lettersL
  rw [List.filter_append]
  congr 1
  simp only [List.filter_cons, List.filter_nil]
def Brd.blank (b : Brd) : Bool := decide ((lettersL b.cells.data.toList).length = 0)
theorem blank_all {b : Brd} (h : b.blank = true) : ∀ x ∈ b.cells.data.toList, x = 46 := by
  intro x hx
  have h1 : lettersL b.cells.data.toList = [] := List.length_eq_zero_iff.1 (of_decide_eq_true h)
  have h2 := List.filter_eq_nil_iff.1 h1 x hx
  simpa using h2
/-- whether a valid play touches what is on the board, or the middle of a blank one -/
def Brd.touch (b : Brd) (p : Ply) : Bool :=
  if b.blank then decide (p.r = b.size / 2) && (decide (p.c ≤ b.size / 2) && decide (b.size / 2 < p.c + p.word.size))
  else decide ((b.fresh p).length < p.word.size) || decide (1 < (b.words p).length)
theorem PGood.blank_fresh {b : Brd} {p : Ply} {n : Nat} (h : PGood b p n) (hb : b.blank = true) : b.fresh p = List.range p.word.size := by
  unfold Brd.fresh freshL
  rw [List.filter_eq_self]
  intro i hi
  have hi := List.mem_range.1 hi
  rw [← h.good.sq p i]
  obtain ⟨h1, h2⟩ := h.sq_in hi
  obtain ⟨r, hr⟩ := Int.eq_ofNat_of_zero_le h1.1
  obtain ⟨c, hc⟩ := Int.eq_ofNat_of_zero_le h2.1
  rw [hr, hc]
  have hl := h.good.get (r := r) (c := c) (by omega) (by omega)
  rw [h.good.cell_in (by omega) (by omega) rfl hl]
  have := blank_all hb b.cells[r * n + c] (by rw [← bytes_get b.cells _ hl]; exact List.getElem_mem _)
  rw [this]
  rfl
/-- one of a valid play's new squares is the middle of a blank board -/
theorem PGood.middle {b : Brd} {p : Ply} {n : Nat} (h : PGood b p n) (hb : b.blank = true) : ((b.fresh p).any fun i => decide (sqOf p i = (b.size / 2, b.size / 2))) = b.touch p := by
  unfold Brd.touch
  rw [if_pos hb, h.blank_fresh hb, Bool.eq_iff_iff]
  simp only [List.any_eq_true, List.mem_range, decide_eq_true_eq, Bool.and_eq_true, sqOf, Prod.mk.injEq]
  generalize b.size / 2 = m
  unfold Ply.sr Ply.sc Ply.r Ply.c
  cases p.down with
  | false =>
    simp only [Bool.false_eq_true, if_false]
    constructor
    · rintro ⟨i, h1, h2, h3⟩; omega
    · rintro ⟨h1, h2, h3⟩; exact ⟨(m - p.col).toNat, by omega, by omega, by omega⟩
  | true =>
    simp only [if_true]
    constructor
    · rintro ⟨i, h1, h2, h3⟩; omega
    · rintro ⟨h1, h2, h3⟩; exact ⟨(m - p.row).toNat, by omega, by omega, by omega⟩
end Go.Proofs.YtjdcdhhbgijaoaaGreatDoor

namespace Go.Proofs.YtjdcdhhbgijaoaaGreatDoor
open Go.ChangeShapes Go.WideShapes Go.ChangeAt Go.RowKit Go.Sort

theorem take_byte {s : ByteArray} {k : Nat} (h : k < s.size) : s.data.toList.take (k + 1) = s.data.toList.take k ++ [s[k]] := by
  have hl : k < s.data.toList.length := by simpa using h
  rw [List.take_succ_eq_append_getElem hl, bytes_get s k h]
theorem lettersL_len (l : List UInt8) : (lettersL l).length ≤ l.length := List.length_filter_le _ _
set_option maxRecDepth 100000 in
set_option maxHeartbeats 2000000 in
theorem l11Letters_any (b : Brd) (g o : Nat) (w : World) (hg : BAt w g o b) (hs : b.cells.size ≤ 225) :
    Calls Tryz.prog 117 #[.pointer (some ⟨g, o, none⟩)] w (StrPost w (lettersL b.cells.data.toList)) := by
  obtain ⟨i0, hi0, hi1, hi2, hi3⟩ := info_parts infoByte
  have hlt := hg.lt
  have hd0 : Below w.heap.size w (w.alloc (.cells #[] 5)) := (Below.refl _ _).alloc (Nat.le_refl _) _
  obtain ⟨lt, hltd⟩ : ∃ lt : Nat → List UInt8, ∀ k, lt k = lettersL (b.cells.data.toList.take k) := ⟨_, fun _ => rfl⟩
  have HLL : Hid (∀ k, (lt k).length ≤ k) := Lib.hid (fun k => by
    rw [hltd]
    have h1 := lettersL_len (b.cells.data.toList.take k)
    have h2 : (b.cells.data.toList.take k).length ≤ k := by rw [List.length_take]; omega
    omega)
  have HYES : Hid (∀ k (h : k < b.cells.size), ((b.cells[k].toNat : Int) == 46) = false → lt (k + 1) = lt k ++ [b.cells[k]]) := Lib.hid (fun k h e => by
    rw [hltd, hltd, take_byte h, lettersL_snoc, if_pos (by rw [bne_iff_ne]; exact int_not46 e)])
  have HNO : Hid (∀ k (h : k < b.cells.size), ((b.cells[k].toNat : Int) == 46) = true → lt (k + 1) = lt k) := Lib.hid (fun k h e => by
    rw [hltd, hltd, take_byte h, lettersL_snoc, if_neg (by rw [bne_iff_ne]; exact fun c => c (by have := int_46 e; simpa using this)), List.append_nil])
  have HEND : Hid (lt b.cells.size = lettersL b.cells.data.toList) := Lib.hid (by rw [hltd, List.take_of_length_le (by simp)])
  have HO : Hid ((w.alloc (.cells #[] 5)).ownsRow w.heap.size 5 1 (.slice (some ⟨w.heap.size, 0, none⟩) (lt 0).length 0) (lt 0).length ((lt 0).flatMap U8.enc)) := Lib.hid (by
    rw [show lt 0 = [] from by rw [hltd]; rfl]
    exact World.ownsRow_made (base := w.heap.size) (e := 5) (size := 1) w #[] 0 (Nat.le_refl _) (by unfold maxLen; omega) rfl)
  have hl0 : (lt 0).length = 0 := by have := HLL.out 0; omega
  have HG := Lib.hid (hg.kept hd0)
  have hb := hd0
  rw [← HEND.out]
  clear hg hltd hd0 HEND
  go_enter Tryz.func117, Tryz.ntmps117
  go_wp2_with fail
  go_loopw [3, 4] (fun ov iv wr => ∃ (k g1 cap : Nat), k ≤ b.cells.size ∧ iv = .int .i64 k ∧ ov = .slice (some ⟨g1, 0, none⟩) (lt k).length cap ∧ Hid (wr.ownsRow w.heap.size 5 1 (.slice (some ⟨g1, 0, none⟩) (lt k).length cap) (lt k).length ((lt k).flatMap U8.enc)) ∧ Hid (BAt wr g o b) ∧ Below w.heap.size w wr) (fun _ iv _ => b.cells.size - (intOf iv).toNat)
  case atStart => exact ⟨0, _, 0, Nat.zero_le _, rfl, by rw [hl0], HO, HG, hb⟩
  case round =>
    clear HO HG hb hl0
    obtain ⟨k, g1, cap, hk, rfl, rfl, HO, HG, hb⟩ := hrel
    have hll := HLL.out k
    have hz2 := hb.size
    obtain ⟨q0, q1, q2⟩ := HG.out
    by_cases hk2 : k < b.cells.size
    · have HY := Lib.hid (HYES.out k hk2)
      have HN := Lib.hid (HNO.out k hk2)
      generalize lt k = fr at *
      cases e1 : ((b.cells[k].toNat : Int) == 46) with
      | true =>
        have HFE := Lib.hid (HN.out e1)
        have HO7 : Hid (wr.ownsRow w.heap.size 5 1 (.slice (some ⟨g1, 0, none⟩) (lt (k + 1)).length cap) (lt (k + 1)).length ((lt (k + 1)).flatMap U8.enc)) := Lib.hid (by rw [HFE.out]; exact HO.out)
        clear HO HY HN
        go_wp2
        go_roundw
        case rel => exact ⟨k + 1, g1, cap, by omega, by go_num, by rw [HFE.out], HO7, HG, hb⟩
        case measure => simp [intOf]; omega
      | false =>
        have HFE := Lib.hid (HY.out e1)
        generalize hfr : fr.length = m at *
        have hx : Below wr.heap.size wr (wr.alloc (.cells #[.int .u8 ((b.cells[k].toNat : Int))] 5)) := (Below.refl _ _).alloc (Nat.le_refl _) _
        have KN := Lib.hid (new_byte wr (b.cells[k]) 5)
        have HLE : Hid ((lt (k + 1)).length = m + 1) := Lib.hid (by rw [HFE.out]; simp [hfr])
        clear HY HN
        have hz3 : w.heap.size ≤ wr.heap.size := hb.size
        replace HO := Lib.hid (own_below HO.out hx)
        replace HG := Lib.hid (HG.out.kept hx)
        have q2 := HG.out.2.2
        replace hb := hb.trans (hx.mono hb.size)
        go_wp2_with (at_builtin; go_must (refine wpList_append_lies _ rfl (.tmp 22) (.tmp 29) 22 rfl w.heap.size 5 i0 _ 1 1 Tryz.underlying22 hi0 hi1 hi2 hi3 rfl (by decide) _ m (fr.flatMap U8.enc) (by rfl) HO.out ⟨wr.heap.size, 0, none⟩ 1 1 (U8.enc (b.cells[k])) (by rfl) rfl KN.out (u8_one1 (b.cells[k])) (by decide) ?c1 ?c2 ?c3 _ rfl ?_))
        case c1 => unfold maxLen; omega
        case c2 => omega
        case c3 => (first | omega | (simp only [World.size_alloc]; omega))
        intro g7 cap7 w7 hown hgr hwh hlt7
        have hb7 := hb.grown hgr hb.size (fun q e => by have := (HO.out.lt q e).1; omega)
        have HO7 : Hid (w7.ownsRow w.heap.size 5 1 (.slice (some ⟨g7, 0, none⟩) (lt (k + 1)).length cap7) (lt (k + 1)).length ((lt (k + 1)).flatMap U8.enc)) := Lib.hid (by rw [HLE.out, HFE.out, snoc_flat U8.enc]; exact hown)
        have HG7 := Lib.hid (HG.out.grown hgr (own_ne HO.out hlt))
        clear hown hgr hwh KN HO hb HG
        go_wp2
        go_roundw
        case rel => exact ⟨k + 1, g7, cap7, by omega, by go_num, by rw [HLE.out], HO7, HG7, hb7⟩
        case measure => simp [intOf]; omega
    · obtain rfl : k = b.cells.size := by omega
      have hcv := own_bytes HO.out rfl
      generalize lt b.cells.size = fr at *
      clear HO HYES HNO HLL
      go_wp2
      go_ret
      exact ⟨rfl, hb⟩
end Go.Proofs.YtjdcdhhbgijaoaaGreatDoor
