/- Contracts: the program's letters on a board, blank boards, whether a play touches; Touches · Contracts: the program's tiles that a play places, the codes of plays, LegalPlay. Go's tab · Contracts: the reference's board after a play. For valid boards and plays. -/
import Derived.Test.YtjdcdhhbgijaoaaGreatDoorToA
import Derived.Test.YtjdcdhhbgijaoaaGreatDoorLgF
import Derived.Test.YtjdcdhhbgijaoaaGreatDoorPlbC
import Derived.Test.YtjdcdhhbgijaoaaGreatDoorShq
import Derived.Test.YtjdcdhhbgijaoaaGreatDoorLgD
import Derived.Test.YtjdcdhhbgijaoaaGreatDoorPlaD
namespace Go.Proofs.YtjdcdhhbgijaoaaGreatDoor
open Go.ChangeShapes Go.WideShapes Go.ChangeAt Go.RowKit Go.Sort

/-- the cell of internal/bytealg's MaxLen holds a number -/
def EnvL (w : World) : Prop := ∃ m : Int, w.cell? ⟨0, 0, none⟩ = some (.int .i64 m)
theorem EnvL.kept {w w' : World} (h : EnvL w) (hb : Below w.heap.size w w') : EnvL w' := by
  obtain ⟨m, hm⟩ := h
  exact ⟨m, cell_kept hm hb⟩
theorem drop_dot (s : ByteArray) : (⟨(Lib.replaceAll s.data.toList (⟨#[46]⟩ : ByteArray).data.toList (⟨#[]⟩ : ByteArray).data.toList).toArray⟩ : ByteArray) = mkB (lettersL s.data.toList) := by
  have := replaceAll_drop 46 s.data.toList
  show (⟨(Lib.replaceAll s.data.toList [46] []).toArray⟩ : ByteArray) = _
  rw [this]
  rfl
theorem lettersOn_any (b : Brd) (w : World) (hs : b.cells.size ≤ 225) (he : EnvL w) :
    Calls Tryz.prog 115 #[.agg #[.int .i64 b.size, .string b.premium, .string b.cells]] w (StrPost w (lettersL b.cells.data.toList)) := by
  have hb : Below w.heap.size w (w.alloc (.cells #[.int .i64 b.size, .string b.premium, .string b.cells] 25)) := (Below.refl _ _).alloc (Nat.le_refl _) _
  have VB := Lib.hid (VarAt.new w 25 [.int .i64 b.size, .string b.premium, .string b.cells])
  obtain ⟨m, hm⟩ := he.kept hb
  have HRA : Hid (Calls Tryz.prog 203 #[.string b.cells, .string ⟨#[46]⟩, .string ⟨#[]⟩] (w.alloc (.cells #[.int .i64 b.size, .string b.premium, .string b.cells] 25)) fun e w' => e = .returned (.string (mkB (lettersL b.cells.data.toList))) ∧ Below (w.alloc (.cells #[.int .i64 b.size, .string b.premium, .string b.cells] 25)).heap.size (w.alloc (.cells #[.int .i64 b.size, .string b.premium, .string b.cells] 25)) w') := Lib.hid (by
    rw [← drop_dot]
    exact Tryz.strings_ReplaceAll b.cells ⟨#[46]⟩ ⟨#[]⟩ m _ (by omega) hm (by decide) (by
      have : Lib.countB b.cells ⟨#[46]⟩ * (⟨#[]⟩ : ByteArray).size = 0 := by rw [show (⟨#[]⟩ : ByteArray).size = 0 from rfl, Nat.mul_zero]
      omega))
  clear hm
  go_enter Tryz.func115, Tryz.ntmps115
  go_upto_region 1 with fail
  generalize w.alloc (.cells #[.int .i64 b.size, .string b.premium, .string b.cells] 25) = w1 at *
  have c2 := VB.out.cell (i := 2) rfl
  go_wp2_with fail
  refine (HRA.out).mono ?_
  rintro e w3 ⟨rfl, hd⟩
  replace hb := hb.trans (hd.mono hb.size)
  clear hd c2
  go_wp2
  go_ret
  exact ⟨rfl, hb⟩
end Go.Proofs.YtjdcdhhbgijaoaaGreatDoor
namespace Go.Proofs.YtjdcdhhbgijaoaaGreatDoor
open Go.ChangeShapes Go.WideShapes Go.ChangeAt Go.RowKit Go.Sort

theorem own_natAt {t : TypeId} {w : World} {base g n cap : Nat} {l : List Nat} (h : w.ownsRow base t 1 (.slice (some ⟨g, 0, none⟩) n cap) n (l.flatMap N64.enc)) {i : Nat} (hi : i < n) (hl : n = l.length) : w.cell? ⟨g, i, none⟩ = some (.int .i64 ((l[i]'(by omega) : Nat) : Int)) := by
  have h1 := h.cellAt i (by omega)
  have h2 := flatMap_get (enc := N64.enc) (sz := 1) (fun _ => rfl) l (i := i) (by omega) (j := 0) (by omega)
  rw [Nat.mul_one, Nat.add_zero] at h2
  rw [h1, h2]
  rfl
/-- both boxes: a board and a play -/
theorem PGood.placed_let {b : Brd} {p : Ply} {n : Nat} (h : PGood b p n) : (placedB p.word (b.fresh p)).all (fun c => letB c.toNat) = true := by
  rw [List.all_eq_true]
  intro d hd
  unfold placedB at hd
  obtain ⟨i, hi, rfl⟩ := List.mem_map.1 hd
  have hl := (freshL_lt hi).1
  rw [u8_byte hl]
  exact (List.all_eq_true.1 h.letters) _ (by rw [← bytes_get p.word i hl]; exact List.getElem_mem _)
set_option maxRecDepth 100000 in
set_option maxHeartbeats 4000000 in
theorem placedTiles_any (b : Brd) (p : Ply) (n : Nat) (w : World) (hp : PGood b p n) :
    Calls Tryz.prog 118 #[.agg #[.int .i64 b.size, .string b.premium, .string b.cells], .agg #[.int .i64 p.row, .int .i64 p.col, .bool p.down, .string p.word]] w (StrPost w (srtL (b.tiles p))) := by
  obtain ⟨i0, hi0, hi1, hi2, hi3⟩ := info_parts infoByte
  have hs12 := hp.twelve
  have hfl : (b.fresh p).length ≤ p.word.size := freshL_len _ _ _ _
  have HNS : Hid (∀ W, Calls Tryz.prog 121 #[.agg #[.int .i64 b.size, .string b.premium, .string b.cells], .agg #[.int .i64 p.row, .int .i64 p.col, .bool p.down, .string p.word]] W (NewPost p (b.fresh p) W)) := Lib.hid (fun W => newSquares_any b p n W hp)
  have HTO : Hid (∀ W, Calls Tryz.prog 126 #[.string (mkB (placedB p.word (b.fresh p)))] W (StrPost W (srtL (b.tiles p)))) := Lib.hid (fun W => by
    have := tilesOf_any (mkB (placedB p.word (b.fresh p))) W (by rw [mkB_size, placedB_len]; omega) (by rw [mkB_data]; exact hp.placed_let)
    rw [mkB_data] at this
    exact this)
  have HLT : Hid (∀ k (h : k < (b.fresh p).length), (b.fresh p)[k] < p.word.size) := Lib.hid (fun k h => (freshL_lt (List.getElem_mem h)).1)
  obtain ⟨lt, hlt⟩ : ∃ lt : Nat → List UInt8, ∀ k, lt k = placedB p.word ((b.fresh p).take k) := ⟨_, fun _ => rfl⟩
  have HL0 : Hid (lt 0 = []) := Lib.hid (by rw [hlt]; rfl)
  have HLS : Hid (∀ k (h : k < (b.fresh p).length) (h2 : (b.fresh p)[k] < p.word.size), lt (k + 1) = lt k ++ [p.word[(b.fresh p)[k]]]) := Lib.hid (fun k h h2 => by rw [hlt, hlt]; exact placedB_take h h2)
  have HLE : Hid (lt (b.fresh p).length = placedB p.word (b.fresh p)) := Lib.hid (by rw [hlt, List.take_length])
  have HLN : Hid (∀ k, k ≤ (b.fresh p).length → (lt k).length = k) := Lib.hid (fun k h => by rw [hlt, placedB_len, List.length_take]; omega)
  rw [← HLE.out] at HTO
  clear hlt HLE hp
  obtain ⟨w2, hw2⟩ : ∃ w2, w2 = (w.alloc (.cells #[.int .i64 b.size, .string b.premium, .string b.cells] 25)).alloc (.cells #[.int .i64 p.row, .int .i64 p.col, .bool p.down, .string p.word] 30) := ⟨_, rfl⟩
  have hb : Below w.heap.size w w2 := by rw [hw2]; exact ((Below.refl _ _).alloc (Nat.le_refl _) _).alloc (by simp) _
  have hz2 : w.heap.size + 1 < w2.heap.size := by rw [hw2]; simp
  have VB : Hid (VarAt w2 w.heap.size 25 [.int .i64 b.size, .string b.premium, .string b.cells]) := by
    rw [hw2]
    exact Lib.hid ((VarAt.new w 25 [.int .i64 b.size, .string b.premium, .string b.cells]).kept ((Below.refl _ _).alloc (Nat.le_refl _) _))
  have VP : Hid (VarAt w2 (w.heap.size + 1) 30 [.int .i64 p.row, .int .i64 p.col, .bool p.down, .string p.word]) := by
    rw [hw2]
    have := VarAt.new (w.alloc (.cells #[.int .i64 b.size, .string b.premium, .string b.cells] 25)) 30 [.int .i64 p.row, .int .i64 p.col, .bool p.down, .string p.word]
    simp only [World.size_alloc] at this
    exact Lib.hid this
  have HW2 := Lib.hid hw2
  clear hw2
  generalize srtL (b.tiles p) = res at *
  generalize b.fresh p = fr at *
  go_enter Tryz.func118, Tryz.ntmps118
  go_upto_region 1 with fail
  rw [← HW2.out]
  clear HW2
  have b0 := VB.out.cell (i := 0) rfl
  have b1 := VB.out.cell (i := 1) rfl
  have b2 := VB.out.cell (i := 2) rfl
  have p0 := VP.out.cell (i := 0) rfl
  have p1 := VP.out.cell (i := 1) rfl
  have p2 := VP.out.cell (i := 2) rfl
  have p3 := VP.out.cell (i := 3) rfl
  go_wp2_with fail
  refine (HNS.out _).mono ?_
  rintro e w3 ⟨g1, c1, g2, c2, rfl, hne, hx, hxi, hd⟩
  have HF := Lib.hid hxi
  have hg2 := hxi.lt g2 rfl
  clear hne hx hxi b0 b1 b2 p0 p1 p2 p3 HNS VB
  replace hb := hb.trans (hd.mono hb.size)
  replace VP := Lib.hid (VP.out.kept hd)
  clear hd
  obtain ⟨w4, hw4⟩ : ∃ w4, w4 = w3.alloc (.cells #[] 5) := ⟨_, rfl⟩
  have hd3 : Below w3.heap.size w3 w4 := by rw [hw4]; exact (Below.refl _ _).alloc (Nat.le_refl _) _
  have HO : Hid (w4.ownsRow w3.heap.size 5 1 (.slice (some ⟨w3.heap.size, 0, none⟩) 0 0) 0 ((lt 0).flatMap U8.enc)) := Lib.hid (by
    rw [hw4, HL0.out]
    exact World.ownsRow_made (base := w3.heap.size) (e := 5) (size := 1) w3 #[] 0 (Nat.le_refl _) (by unfold maxLen; omega) rfl)
  have HFC : Hid (∀ k (h : k < fr.length), w4.cell? ⟨g2, k, none⟩ = some (.int .i64 ((fr[k] : Nat) : Int))) := Lib.hid (fun k h => cell_kept (own_natAt HF.out h rfl) hd3)
  have hz3 := VP.out.lt
  replace VP := Lib.hid (VP.out.kept hd3)
  have hBz : w3.heap.size ≤ w4.heap.size := hd3.size
  replace hb := hb.trans (hd3.mono hb.size)
  have HW4 := Lib.hid hw4
  clear hw4 hd3 HF HL0
  go_upto_region 4 with fail
  rw [← HW4.out]
  clear HW4
  have hg2B := hg2.2
  have hz2' : w.heap.size ≤ w3.heap.size := by omega
  clear hg2 hz2
  generalize w3.heap.size = B at *
  go_loopw [7, 19] (fun ov iv wr => ∃ (k g1 cap : Nat), k ≤ fr.length ∧ iv = .int .i64 k ∧ ov = .slice (some ⟨g1, 0, none⟩) k cap ∧ Hid (wr.ownsRow B 5 1 (.slice (some ⟨g1, 0, none⟩) k cap) k ((lt k).flatMap U8.enc)) ∧ Hid (VarAt wr (w.heap.size + 1) 30 [.int .i64 p.row, .int .i64 p.col, .bool p.down, .string p.word]) ∧ Hid (∀ k (h : k < fr.length), wr.cell? ⟨g2, k, none⟩ = some (.int .i64 ((fr[k] : Nat) : Int))) ∧ B ≤ wr.heap.size ∧ Below w.heap.size w wr) (fun _ iv _ => fr.length - (intOf iv).toNat)
  case atStart => exact ⟨0, _, 0, Nat.zero_le _, rfl, rfl, HO, VP, HFC, hBz, hb⟩
  case round =>
    clear HO VP HFC hb hBz
    obtain ⟨k, g1, cap, hk, rfl, rfl, HO, VP, HFC, hB, hb⟩ := hrel
    by_cases hk2 : k < fr.length
    · have hj := HLT.out k hk2
      have HS := Lib.hid (HLS.out k hk2 hj)
      have q0 := HFC.out k hk2
      generalize fr[k] = j at *
      have p3 := VP.out.cell (i := 3) rfl
      have hj2 : (0 : Int) ≤ (j : Int) ∧ (j : Int) < (p.word.size : Int) := by omega
      have hx : Below wr.heap.size wr (wr.alloc (.cells #[.int .u8 ((p.word[j].toNat : Int))] 5)) := (Below.refl _ _).alloc (Nat.le_refl _) _
      have KN := Lib.hid (new_byte wr (p.word[j]) 5)
      have HOX := Lib.hid (own_below HO.out hx)
      have VPX := Lib.hid (VP.out.kept hx)
      have HFX : Hid (∀ k (h : k < fr.length), (wr.alloc (.cells #[.int .u8 ((p.word[j].toNat : Int))] 5)).cell? ⟨g2, k, none⟩ = some (.int .i64 ((fr[k] : Nat) : Int))) := Lib.hid (fun k h => cell_kept (HFC.out k h) hx)
      have hbx := hb.trans (hx.mono hb.size)
      have hz9 := hb.size
      clear HO VP HFC hb hx
      go_wp2_with (at_builtin; go_must (refine wpList_append_lies _ rfl (.tmp 23) (.tmp 28) 22 rfl B 5 i0 _ 1 1 Tryz.underlying22 hi0 hi1 hi2 hi3 rfl (by decide) _ k ((lt k).flatMap U8.enc) (by rfl) HOX.out ⟨wr.heap.size, 0, none⟩ 1 1 (U8.enc (p.word[j])) (by rfl) rfl KN.out (u8_one1 (p.word[j])) (by decide) ?c1 ?c2 ?c3 _ rfl ?_))
      case c1 => unfold maxLen; omega
      case c2 => omega
      case c3 => (first | omega | (simp only [World.size_alloc]; omega))
      intro g7 cap7 w7 hown hgr hwh hlt7
      have hb7 := hbx.grown hgr hbx.size (fun q e => by have := (HOX.out.lt q e).1; omega)
      have HO7 : Hid (w7.ownsRow B 5 1 (.slice (some ⟨g7, 0, none⟩) (k + 1) cap7) (k + 1) ((lt (k + 1)).flatMap U8.enc)) := Lib.hid (by rw [HS.out, snoc_flat U8.enc]; exact hown)
      have VP7 := Lib.hid (VPX.out.grown hgr (own_ne HOX.out (by omega)))
      have HFC7 : Hid (∀ k (h : k < fr.length), w7.cell? ⟨g2, k, none⟩ = some (.int .i64 ((fr[k] : Nat) : Int))) := Lib.hid (fun k h => hgr.cell (HFX.out k h) (own_ne HOX.out (show g2 < B by omega)))
      have hB7 : B ≤ w7.heap.size := by have := hgr.size; simp only [World.size_alloc] at this; omega
      clear hown hgr hwh KN hlt7 HOX VPX HFX hbx p3 q0 HS
      go_wp2
      go_roundw
      case rel => exact ⟨k + 1, g7, cap7, by omega, by go_num, by go_num, HO7, VP7, HFC7, hB7, hb7⟩
      case measure => simp [intOf]; omega
    · obtain rfl : k = fr.length := by omega
      have hcv := own_bytes HO.out (HLN.out _ (Nat.le_refl _)).symm
      clear HO HLS
      go_wp2_with fail
      refine (HTO.out _).mono ?_
      rintro e w5 ⟨rfl, hd⟩
      replace hb := hb.trans (hd.mono hb.size)
      clear hd hcv
      go_wp2
      go_ret
      exact ⟨rfl, hb⟩
end Go.Proofs.YtjdcdhhbgijaoaaGreatDoor
namespace Go.Proofs.YtjdcdhhbgijaoaaGreatDoor
open Go.ChangeShapes Go.WideShapes Go.ChangeAt Go.RowKit Go.Sort

/-! ### Plain: the board after a play is found on the turned board too -/
end Go.Proofs.YtjdcdhhbgijaoaaGreatDoor
