/- Contracts: the reference's whole test on plays; the squares that a play fills; a word across. For valid boards; the test: no condition but that lengths fit an int. -/
import Derived.Test.YtpkadgibfmjmcaaGreatDoorPlaB
namespace Go.Proofs.YtpkadgibfmjmcaaGreatDoor
open Go.ChangeShapes Go.WideShapes Go.ChangeAt Go.RowKit Go.Sort

/-! ### Plain: letters along a column, by their places -/
theorem upL_at {F : Fl} {c : Int} : ∀ (k : Nat) (r : Int) (j : Nat) (h : j < (upL F c k r).length), (upL F c k r)[j] = F (r - j) c ∧ fullC (F (r - j) c) = true
  | 0, _, _, h => by simp [upL] at h
  | k + 1, r, j, h => by
    cases hf : fullC (F r c) with
    | false => rw [upL_stop hf] at h; simp at h
    | true =>
      have e := upL_full (k := k) hf
      cases j with
      | zero =>
        simp only [e, List.getElem_cons_zero]
        rw [show r - ((0 : Nat) : Int) = r from by omega]
        exact ⟨rfl, hf⟩
      | succ j =>
        have h2 : j < (upL F c k (r - 1)).length := by rw [e] at h; simpa using h
        have := upL_at k (r - 1) j h2
        simp only [e, List.getElem_cons_succ]
        rw [show r - ((j + 1 : Nat) : Int) = r - 1 - (j : Int) from by omega]
        exact this
theorem dnL_at {F : Fl} {c : Int} : ∀ (k : Nat) (r : Int) (j : Nat) (h : j < (dnL F c k r).length), (dnL F c k r)[j] = F (r + j) c ∧ fullC (F (r + j) c) = true
  | 0, _, _, h => by simp [dnL] at h
  | k + 1, r, j, h => by
    cases hf : fullC (F r c) with
    | false => rw [dnL_stop hf] at h; simp at h
    | true =>
      have e := dnL_full (k := k) hf
      cases j with
      | zero =>
        simp only [e, List.getElem_cons_zero]
        rw [show r + ((0 : Nat) : Int) = r from by omega]
        exact ⟨rfl, hf⟩
      | succ j =>
        have h2 : j < (dnL F c k (r + 1)).length := by rw [e] at h; simpa using h
        have := dnL_at k (r + 1) j h2
        simp only [e, List.getElem_cons_succ]
        rw [show r + ((j + 1 : Nat) : Int) = r + 1 + (j : Int) from by omega]
        exact this
theorem upL_end {F : Fl} {c : Int} : ∀ (k : Nat) (r : Int), (upL F c k r).length < k → fullC (F (r - (upL F c k r).length) c) = false
  | 0, _, h => by simp at h
  | k + 1, r, h => by
    cases hf : fullC (F r c) with
    | false => rw [upL_stop hf]; simpa using hf
    | true =>
      have e := upL_full (k := k) hf
      rw [e] at h ⊢
      simp only [List.length_cons] at h ⊢
      have := upL_end (F := F) (c := c) k (r - 1) (by omega)
      rwa [show r - (((upL F c k (r - 1)).length + 1 : Nat) : Int) = r - 1 - ((upL F c k (r - 1)).length : Int) from by omega]
theorem dnL_end {F : Fl} {c : Int} : ∀ (k : Nat) (r : Int), (dnL F c k r).length < k → fullC (F (r + (dnL F c k r).length) c) = false
  | 0, _, h => by simp at h
  | k + 1, r, h => by
    cases hf : fullC (F r c) with
    | false => rw [dnL_stop hf]; simpa using hf
    | true =>
      have e := dnL_full (k := k) hf
      rw [e] at h ⊢
      simp only [List.length_cons] at h ⊢
      have := dnL_end (F := F) (c := c) k (r + 1) (by omega)
      rwa [show r + (((dnL F c k (r + 1)).length + 1 : Nat) : Int) = r + 1 + ((dnL F c k (r + 1)).length : Int) from by omega]
/-- on a valid board there are at most as many as there are rows -/
theorem Brd.Good.up_le {b : Brd} {n : Nat} (h : b.Good n) {c r : Int} (k : Nat) (h0 : 0 ≤ r + 1) : ((upL b.cell c k r).length : Int) ≤ r + 1 := by
  by_cases hl : 0 < (upL b.cell c k r).length
  · have h1 := (upL_at (F := b.cell) (c := c) k r ((upL b.cell c k r).length - 1) (by omega)).2
    have h2 := h.inB.1 (h.full_in h1)
    omega
  · omega
theorem Brd.Good.dn_le {b : Brd} {n : Nat} (h : b.Good n) {c r : Int} (k : Nat) (h0 : r ≤ n) : (r : Int) + (dnL b.cell c k r).length ≤ n := by
  by_cases hl : 0 < (dnL b.cell c k r).length
  · have h1 := (dnL_at (F := b.cell) (c := c) k r ((dnL b.cell c k r).length - 1) (by omega)).2
    have h2 := h.inB.1 (h.full_in h1)
    omega
  · omega
/-- a word across, place by place -/
theorem crossW_lo {F : Fl} {R C : Int} {x : UInt8} {j : Nat} (h : j < (upL F C 16 (R - 1)).length) (h2 : j < (crossW F R C x).length) : (crossW F R C x)[j] = F (R - (upL F C 16 (R - 1)).length + j) C ∧ fullC (F (R - (upL F C 16 (R - 1)).length + j) C) = true := by
  have h1 := upL_at (F := F) (c := C) 16 (R - 1) ((upL F C 16 (R - 1)).length - 1 - j) (by omega)
  have e : R - 1 - (((upL F C 16 (R - 1)).length - 1 - j : Nat) : Int) = R - (upL F C 16 (R - 1)).length + j := by omega
  rw [e] at h1
  refine ⟨?_, h1.2⟩
  rw [← h1.1]
  simp only [crossW]
  rw [List.getElem_append_left (by simpa using h), List.getElem_reverse]
theorem crossW_mid {F : Fl} {R C : Int} {x : UInt8} (h2 : (upL F C 16 (R - 1)).length < (crossW F R C x).length) : (crossW F R C x)[(upL F C 16 (R - 1)).length] = x := by
  simp only [crossW]
  rw [List.getElem_append_right (by simp)]
  simp
theorem crossW_hi {F : Fl} {R C : Int} {x : UInt8} {j : Nat} (h : (upL F C 16 (R - 1)).length < j) (h2 : j < (crossW F R C x).length) : (crossW F R C x)[j] = F (R - (upL F C 16 (R - 1)).length + j) C ∧ fullC (F (R - (upL F C 16 (R - 1)).length + j) C) = true := by
  have hl : (crossW F R C x).length = (upL F C 16 (R - 1)).length + 1 + (dnL F C 16 (R + 1)).length := by
    unfold crossW
    simp only [List.length_append, List.length_reverse, List.length_cons]
    omega
  have h1 := dnL_at (F := F) (c := C) 16 (R + 1) (j - (upL F C 16 (R - 1)).length - 1) (by omega)
  have e : R + 1 + ((j - (upL F C 16 (R - 1)).length - 1 : Nat) : Int) = R - (upL F C 16 (R - 1)).length + j := by omega
  rw [e] at h1
  refine ⟨?_, h1.2⟩
  rw [← h1.1]
  simp only [crossW]
  rw [List.getElem_append_right (by simp; omega), List.getElem_cons]
  rw [dif_neg (by simp; omega)]
  congr 1
  simp
theorem crossW_length (F : Fl) (R C : Int) (x : UInt8) : (crossW F R C x).length = (upL F C 16 (R - 1)).length + 1 + (dnL F C 16 (R + 1)).length := by
  unfold crossW
  simp only [List.length_append, List.length_reverse, List.length_cons]
  omega
def N64.enc (i : Nat) : List Value := [.int .i64 (i : Int)]
theorem N64.enc_len (i : Nat) : (N64.enc i).length = 1 := rfl
theorem n64_one (i : Nat) : ∀ u ∈ N64.enc i, u.oneCell' = true := by
  intro u hu
  simp only [N64.enc, List.mem_cons, List.not_mem_nil, or_false] at hu
  rw [hu]; rfl
theorem new_n64 (w : World) (i : Nat) (t : TypeId) : ∀ j u, (N64.enc i)[j]? = some u → (w.alloc (.cells #[.int .i64 (i : Int)] t)).cell? ((⟨w.heap.size, 0, none⟩ : Addr).add j) = some u := by
  intro j u hu
  rw [Go.Addr.add_lit, Nat.zero_add]
  match j, hu with
  | 0, hu =>
    simp only [N64.enc, List.getElem?_cons_zero, Option.some.injEq] at hu
    subst hu
    exact cell_new0 w _ t rfl
  | j + 1, hu => simp [N64.enc] at hu
/-- numbers in a row of the call's own -/
def NatsPost (w : World) (xs : List Nat) (e : Ending) (w' : World) : Prop :=
  ∃ g cap, e = .returned (.slice (some ⟨g, 0, none⟩) xs.length cap) ∧ w'.ownsRow w.heap.size 2 1 (.slice (some ⟨g, 0, none⟩) xs.length cap) xs.length (xs.flatMap N64.enc) ∧ Below w.heap.size w w'

set_option maxRecDepth 100000 in
set_option maxHeartbeats 4000000 in
theorem l12Fresh_any (f : Brd) (n : Nat) (row col : Int) (down : Bool) (s : ByteArray) (g o : Nat) (w : World) (hb0 : f.Good n) (hg : BAt w g o f) (hs : s.size ≤ 12) (hr0 : 0 ≤ row) (hr1 : row < n) (hc0 : 0 ≤ col) (hc1 : col + s.size ≤ n) :
    Calls Tryz.prog 96 #[.pointer (some ⟨g, o, none⟩), .agg #[.int .i64 row, .int .i64 col, .bool down, .string s]] w (NatsPost w (freshL f.cell row col s.size)) := by
  obtain ⟨i0, hi0, hi1, hi2, hi3⟩ := info_parts infoI64
  have hlt := hg.lt
  have hn15 := hb0.hi
  obtain ⟨w2, hw2⟩ : ∃ w2, w2 = (w.alloc (.cells #[.int .i64 row, .int .i64 col, .bool down, .string s] 38)).alloc (.cells #[] 2) := ⟨_, rfl⟩
  have hb : Below w.heap.size w w2 := by rw [hw2]; exact ((Below.refl _ _).alloc (Nat.le_refl _) _).alloc (by simp) _
  have V0 : Hid (VarAt w2 w.heap.size 38 [.int .i64 row, .int .i64 col, .bool down, .string s]) := by
    rw [hw2]
    exact Lib.hid ((VarAt.new w 38 [.int .i64 row, .int .i64 col, .bool down, .string s]).kept ((Below.refl _ _).alloc (Nat.le_refl _) _))
  have HG : Hid (BAt w2 g o f) := by
    rw [hw2]
    exact Lib.hid ((hg.kept ((Below.refl _ _).alloc (Nat.le_refl _) _)).kept ((Below.refl _ _).alloc (Nat.le_refl _) _))
  have HO : Hid (w2.ownsRow (w.heap.size + 1) 2 1 (.slice (some ⟨w.heap.size + 1, 0, none⟩) 0 0) 0 []) := by
    rw [hw2]
    have := World.ownsRow_made (base := w.heap.size + 1) (e := 2) (size := 1) (w.alloc (.cells #[.int .i64 row, .int .i64 col, .bool down, .string s] 38)) #[] 0 (by simp) (by unfold maxLen; omega) rfl
    simp only [World.size_alloc] at this
    exact Lib.hid this
  have HAT : Hid (∀ c' W, f.inB row c' = true → BAt W g o f → Calls Tryz.prog 156 #[.pointer (some ⟨g, o, none⟩), .int .i64 row, .int .i64 c'] W fun e w' => e = .returned (.int .u8 ((f.cell row c').toNat : Int)) ∧ Drew W w') := Lib.hid (fun c' W hi h => l11At_any f n row c' g o W hb0 h hi)
  have HIB : Hid (∀ c', f.inB row c' = true ↔ (0 ≤ row ∧ row < n) ∧ 0 ≤ c' ∧ c' < n) := Lib.hid (fun c' => hb0.inB)
  have HFL := Lib.hid (freshL_len f.cell row col)
  have HW2 := Lib.hid hw2
  clear hw2 hg hb0
  go_enter Tryz.func96, Tryz.ntmps96
  go_wp2_with fail
  rw [← HW2.out]
  clear HW2
  go_loopw [5, 6] (fun ov iv wr => ∃ (k g1 cap : Nat), k ≤ s.size ∧ iv = .int .i64 k ∧ ov = .slice (some ⟨g1, 0, none⟩) (freshL f.cell row col k).length cap ∧ Hid (wr.ownsRow (w.heap.size + 1) 2 1 (.slice (some ⟨g1, 0, none⟩) (freshL f.cell row col k).length cap) (freshL f.cell row col k).length ((freshL f.cell row col k).flatMap N64.enc)) ∧ Hid (BAt wr g o f) ∧ Hid (VarAt wr w.heap.size 38 [.int .i64 row, .int .i64 col, .bool down, .string s]) ∧ Below w.heap.size w wr) (fun _ iv _ => s.size - (intOf iv).toNat)
  case atStart => exact ⟨0, _, 0, Nat.zero_le _, rfl, rfl, HO, HG, V0, hb⟩
  case round =>
    clear HO HG V0 hb
    obtain ⟨k, g1, cap, hk, rfl, rfl, HO, HG, V0, hb⟩ := hrel
    have HFS := Lib.hid (freshL_succ f.cell row col k)
    have hfl := HFL.out k
    have c0 := V0.out.cell (i := 0) rfl
    have c1 := V0.out.cell (i := 1) rfl
    have c3 := V0.out.cell (i := 3) rfl
    by_cases hk2 : k < s.size
    · have hin : f.inB row (col + k) = true := (HIB.out _).2 (by omega)
      cases e1 : (((f.cell row (col + k)).toNat : Int) == 46) with
      | true =>
        have HFE : Hid (freshL f.cell row col (k + 1) = freshL f.cell row col k ++ [k]) := Lib.hid (by rw [HFS.out, int_46 e1]; rfl)
        generalize freshL f.cell row col k = fr at *
        generalize hfr : fr.length = m at *
        go_wp2_with fail
        refine (HAT.out _ _ hin HG.out).mono ?_
        rintro e wq ⟨rfl, hdq⟩
        have hd := hdq.bels
        clear hdq c0 c1 c3
        replace hb := hb.trans (hd.mono hb.size)
        replace HO := Lib.hid (own_below HO.out hd)
        replace V0 := Lib.hid (V0.out.kept hd)
        replace HG := Lib.hid (HG.out.kept hd)
        clear hd
        have hx : Below wq.heap.size wq (wq.alloc (.cells #[.int .i64 (k : Int)] 2)) := (Below.refl _ _).alloc (Nat.le_refl _) _
        have KN := Lib.hid (new_n64 wq k 2)
        have hz2 := V0.out.lt
        replace hb := hb.trans (hx.mono hb.size)
        replace HO := Lib.hid (own_below HO.out hx)
        replace V0 := Lib.hid (V0.out.kept hx)
        replace HG := Lib.hid (HG.out.kept hx)
        clear hx
        go_wp2_with (at_builtin; go_must (refine wpList_append_lies _ rfl (.tmp 24) (.tmp 26) 22 rfl (w.heap.size + 1) 2 i0 _ 1 8 Tryz.underlying22 hi0 hi1 hi2 hi3 rfl (by decide) _ m (fr.flatMap N64.enc) (by rfl) HO.out ⟨wq.heap.size, 0, none⟩ 1 1 (N64.enc k) (by rfl) rfl KN.out (n64_one k) (by decide) ?c1 ?c2 ?c3 _ rfl ?_))
        case c1 => unfold maxLen; omega
        case c2 => omega
        case c3 => (first | omega | (simp only [World.size_alloc]; omega))
        intro g7 cap7 w7 hown hgr hwh hlt7
        have hb7 := hb.grown hgr hb.size (fun q e => by have := (HO.out.lt q e).1; omega)
        have HLE : Hid ((freshL f.cell row col (k + 1)).length = m + 1) := Lib.hid (by rw [HFE.out]; simp [hfr])
        have HO7 : Hid (w7.ownsRow (w.heap.size + 1) 2 1 (.slice (some ⟨g7, 0, none⟩) (freshL f.cell row col (k + 1)).length cap7) (freshL f.cell row col (k + 1)).length ((freshL f.cell row col (k + 1)).flatMap N64.enc)) := Lib.hid (by
          rw [HLE.out, HFE.out, snoc_flat N64.enc]; exact hown)
        have V7 := Lib.hid (V0.out.grown hgr (own_ne HO.out (by omega)))
        have HG7 := Lib.hid (HG.out.grown hgr (own_ne HO.out (by omega)))
        clear hown hgr hwh KN HO hb V0 HG
        go_wp2
        go_roundw
        case rel => exact ⟨k + 1, g7, cap7, by omega, by go_num, by rw [HLE.out], HO7, HG7, V7, hb7⟩
        case measure => simp [intOf]; omega
      | false =>
        have HFE : Hid (freshL f.cell row col (k + 1) = freshL f.cell row col k) := Lib.hid (by
          rw [HFS.out, show (f.cell row (col + k) == 46) = false from beq_eq_false_iff_ne.2 (int_not46 e1)]; simp)
        have HO2 : Hid (wr.ownsRow (w.heap.size + 1) 2 1 (.slice (some ⟨g1, 0, none⟩) (freshL f.cell row col (k + 1)).length cap) (freshL f.cell row col (k + 1)).length ((freshL f.cell row col (k + 1)).flatMap N64.enc)) := Lib.hid (by rw [HFE.out]; exact HO.out)
        go_wp2_with fail
        refine (HAT.out _ _ hin HG.out).mono ?_
        rintro e wq ⟨rfl, hdq⟩
        have hd := hdq.bels
        clear hdq c0 c1 c3 HO
        replace hb := hb.trans (hd.mono hb.size)
        replace HO2 := Lib.hid (own_below HO2.out hd)
        replace V0 := Lib.hid (V0.out.kept hd)
        replace HG := Lib.hid (HG.out.kept hd)
        clear hd
        go_wp2
        go_roundw
        case rel => exact ⟨k + 1, g1, cap, by omega, by go_num, by rw [HFE.out], HO2, HG, V0, hb⟩
        case measure => simp [intOf]; omega
    · obtain rfl : k = s.size := by omega
      go_wp2
      go_ret
      exact ⟨g1, cap, rfl, own_mono HO.out (by omega), hb⟩
end Go.Proofs.YtpkadgibfmjmcaaGreatDoor
