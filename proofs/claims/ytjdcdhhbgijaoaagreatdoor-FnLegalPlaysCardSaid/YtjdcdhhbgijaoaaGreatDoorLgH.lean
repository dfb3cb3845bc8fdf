/- Contracts: the program's tiles that a play places, the codes of plays, LegalPlay. Go's tables of unicode and unicode/utf8 hold what is laid (CEnv), internal/bytealg's MaxLen a number (EnvL). -/
import Derived.Test.YtjdcdhhbgijaoaaGreatDoorLgD
import Derived.Test.YtjdcdhhbgijaoaaGreatDoorLgF
import Derived.Test.YtjdcdhhbgijaoaaGreatDoorJnD
import Derived.Test.YtjdcdhhbgijaoaaGreatDoorJnC
namespace Go.Proofs.YtjdcdhhbgijaoaaGreatDoor
open Go.ChangeShapes Go.WideShapes Go.ChangeAt Go.RowKit Go.Sort

theorem own_natAt {t : TypeId} {w : World} {base g n cap : Nat} {l : List Nat} (h : w.ownsRow base t 1 (.slice (some ⟨g, 0, none⟩) n cap) n (l.flatMap N64.enc)) {i : Nat} (hi : i < n) (hl : n = l.length) : w.cell? ⟨g, i, none⟩ = some (.int .i64 ((l[i]'(by omega) : Nat) : Int)) := by
  have h1 := h.cellAt i (by omega)
  have h2 := flatMap_get (enc := N64.enc) (sz := 1) (fun _ => rfl) l (i := i) (by omega) (j := 0) (by omega)
  rw [Nat.mul_one, Nat.add_zero] at h2
  rw [h1, h2]
  rfl
/-- both boxes: a board and a play -/
theorem PGood.placed_let {b : Brd} {p : Ply} {n : Nat} (h : PGood b p n) : (placedB p.word (b.fresh p)).all (fun c => letB c.toNat) = true := by
  rw [List.all_eq_true]
  intro d hd
  unfold placedB at hd
  obtain ⟨i, hi, rfl⟩ := List.mem_map.1 hd
  have hl := (freshL_lt hi).1
  rw [u8_byte hl]
  exact (List.all_eq_true.1 h.letters) _ (by rw [← bytes_get p.word i hl]; exact List.getElem_mem _)
set_option maxRecDepth 100000 in
set_option maxHeartbeats 4000000 in
theorem placedTiles_any (b : Brd) (p : Ply) (n : Nat) (w : World) (hp : PGood b p n) :
    Calls Tryz.prog 118 #[.agg #[.int .i64 b.size, .string b.premium, .string b.cells], .agg #[.int .i64 p.row, .int .i64 p.col, .bool p.down, .string p.word]] w (StrPost w (srtL (b.tiles p))) := by
  obtain ⟨i0, hi0, hi1, hi2, hi3⟩ := info_parts infoByte
  have hs12 := hp.twelve
  have hfl : (b.fresh p).length ≤ p.word.size := freshL_len _ _ _ _
  have HNS : Hid (∀ W, Calls Tryz.prog 121 #[.agg #[.int .i64 b.size, .string b.premium, .string b.cells], .agg #[.int .i64 p.row, .int .i64 p.col, .bool p.down, .string p.word]] W (NewPost p (b.fresh p) W)) := Lib.hid (fun W => newSquares_any b p n W hp)
  have HTO : Hid (∀ W, Calls Tryz.prog 126 #[.string (mkB (placedB p.word (b.fresh p)))] W (StrPost W (srtL (b.tiles p)))) := Lib.hid (fun W => by
    have := tilesOf_any (mkB (placedB p.word (b.fresh p))) W (by rw [mkB_size, placedB_len]; omega) (by rw [mkB_data]; exact hp.placed_let)
    rw [mkB_data] at this
    exact this)
  have HLT : Hid (∀ k (h : k < (b.fresh p).length), (b.fresh p)[k] < p.word.size) := Lib.hid (fun k h => (freshL_lt (List.getElem_mem h)).1)
  obtain ⟨lt, hlt⟩ : ∃ lt : Nat → List UInt8, ∀ k, lt k = placedB p.word ((b.fresh p).take k) := ⟨_, fun _ => rfl⟩
  have HL0 : Hid (lt 0 = []) := Lib.hid (by rw [hlt]; rfl)
  have HLS : Hid (∀ k (h : k < (b.fresh p).length) (h2 : (b.fresh p)[k] < p.word.size), lt (k + 1) = lt k ++ [p.word[(b.fresh p)[k]]]) := Lib.hid (fun k h h2 => by rw [hlt, hlt]; exact placedB_take h h2)
  have HLE : Hid (lt (b.fresh p).length = placedB p.word (b.fresh p)) := Lib.hid (by rw [hlt, List.take_length])
  have HLN : Hid (∀ k, k ≤ (b.fresh p).length → (lt k).length = k) := Lib.hid (fun k h => by rw [hlt, placedB_len, List.length_take]; omega)
  rw [← HLE.out] at HTO
  clear hlt HLE hp
  obtain ⟨w2, hw2⟩ : ∃ w2, w2 = (w.alloc (.cells #[.int .i64 b.size, .string b.premium, .string b.cells] 25)).alloc (.cells #[.int .i64 p.row, .int .i64 p.col, .bool p.down, .string p.word] 30) := ⟨_, rfl⟩
  have hb : Below w.heap.size w w2 := by rw [hw2]; exact ((Below.refl _ _).alloc (Nat.le_refl _) _).alloc (by simp) _
  have hz2 : w.heap.size + 1 < w2.heap.size := by rw [hw2]; simp
  have VB : Hid (VarAt w2 w.heap.size 25 [.int .i64 b.size, .string b.premium, .string b.cells]) := by
    rw [hw2]
    exact Lib.hid ((VarAt.new w 25 [.int .i64 b.size, .string b.premium, .string b.cells]).kept ((Below.refl _ _).alloc (Nat.le_refl _) _))
  have VP : Hid (VarAt w2 (w.heap.size + 1) 30 [.int .i64 p.row, .int .i64 p.col, .bool p.down, .string p.word]) := by
    rw [hw2]
    have := VarAt.new (w.alloc (.cells #[.int .i64 b.size, .string b.premium, .string b.cells] 25)) 30 [.int .i64 p.row, .int .i64 p.col, .bool p.down, .string p.word]
    simp only [World.size_alloc] at this
    exact Lib.hid this
  have HW2 := Lib.hid hw2
  clear hw2
  generalize srtL (b.tiles p) = res at *
  generalize b.fresh p = fr at *
  go_enter Tryz.func118, Tryz.ntmps118
  go_upto_region 1 with fail
  rw [← HW2.out]
  clear HW2
  have b0 := VB.out.cell (i := 0) rfl
  have b1 := VB.out.cell (i := 1) rfl
  have b2 := VB.out.cell (i := 2) rfl
  have p0 := VP.out.cell (i := 0) rfl
  have p1 := VP.out.cell (i := 1) rfl
  have p2 := VP.out.cell (i := 2) rfl
  have p3 := VP.out.cell (i := 3) rfl
  go_wp2_with fail
  refine (HNS.out _).mono ?_
  rintro e w3 ⟨g1, c1, g2, c2, rfl, hne, hx, hxi, hd⟩
  have HF := Lib.hid hxi
  have hg2 := hxi.lt g2 rfl
  clear hne hx hxi b0 b1 b2 p0 p1 p2 p3 HNS VB
  replace hb := hb.trans (hd.mono hb.size)
  replace VP := Lib.hid (VP.out.kept hd)
  clear hd
  obtain ⟨w4, hw4⟩ : ∃ w4, w4 = w3.alloc (.cells #[] 5) := ⟨_, rfl⟩
  have hd3 : Below w3.heap.size w3 w4 := by rw [hw4]; exact (Below.refl _ _).alloc (Nat.le_refl _) _
  have HO : Hid (w4.ownsRow w3.heap.size 5 1 (.slice (some ⟨w3.heap.size, 0, none⟩) 0 0) 0 ((lt 0).flatMap U8.enc)) := Lib.hid (by
    rw [hw4, HL0.out]
    exact World.ownsRow_made (base := w3.heap.size) (e := 5) (size := 1) w3 #[] 0 (Nat.le_refl _) (by unfold maxLen; omega) rfl)
  have HFC : Hid (∀ k (h : k < fr.length), w4.cell? ⟨g2, k, none⟩ = some (.int .i64 ((fr[k] : Nat) : Int))) := Lib.hid (fun k h => cell_kept (own_natAt HF.out h rfl) hd3)
  have hz3 := VP.out.lt
  replace VP := Lib.hid (VP.out.kept hd3)
  have hBz : w3.heap.size ≤ w4.heap.size := hd3.size
  replace hb := hb.trans (hd3.mono hb.size)
  have HW4 := Lib.hid hw4
  clear hw4 hd3 HF HL0
  go_upto_region 4 with fail
  rw [← HW4.out]
  clear HW4
  have hg2B := hg2.2
  have hz2' : w.heap.size ≤ w3.heap.size := by omega
  clear hg2 hz2
  generalize w3.heap.size = B at *
  go_loopw [7, 19] (fun ov iv wr => ∃ (k g1 cap : Nat), k ≤ fr.length ∧ iv = .int .i64 k ∧ ov = .slice (some ⟨g1, 0, none⟩) k cap ∧ Hid (wr.ownsRow B 5 1 (.slice (some ⟨g1, 0, none⟩) k cap) k ((lt k).flatMap U8.enc)) ∧ Hid (VarAt wr (w.heap.size + 1) 30 [.int .i64 p.row, .int .i64 p.col, .bool p.down, .string p.word]) ∧ Hid (∀ k (h : k < fr.length), wr.cell? ⟨g2, k, none⟩ = some (.int .i64 ((fr[k] : Nat) : Int))) ∧ B ≤ wr.heap.size ∧ Below w.heap.size w wr) (fun _ iv _ => fr.length - (intOf iv).toNat)
  case atStart => exact ⟨0, _, 0, Nat.zero_le _, rfl, rfl, HO, VP, HFC, hBz, hb⟩
  case round =>
    clear HO VP HFC hb hBz
    obtain ⟨k, g1, cap, hk, rfl, rfl, HO, VP, HFC, hB, hb⟩ := hrel
    by_cases hk2 : k < fr.length
    · have hj := HLT.out k hk2
      have HS := Lib.hid (HLS.out k hk2 hj)
      have q0 := HFC.out k hk2
      generalize fr[k] = j at *
      have p3 := VP.out.cell (i := 3) rfl
      have hj2 : (0 : Int) ≤ (j : Int) ∧ (j : Int) < (p.word.size : Int) := by omega
      have hx : Below wr.heap.size wr (wr.alloc (.cells #[.int .u8 ((p.word[j].toNat : Int))] 5)) := (Below.refl _ _).alloc (Nat.le_refl _) _
      have KN := Lib.hid (new_byte wr (p.word[j]) 5)
      have HOX := Lib.hid (own_below HO.out hx)
      have VPX := Lib.hid (VP.out.kept hx)
      have HFX : Hid (∀ k (h : k < fr.length), (wr.alloc (.cells #[.int .u8 ((p.word[j].toNat : Int))] 5)).cell? ⟨g2, k, none⟩ = some (.int .i64 ((fr[k] : Nat) : Int))) := Lib.hid (fun k h => cell_kept (HFC.out k h) hx)
      have hbx := hb.trans (hx.mono hb.size)
      have hz9 := hb.size
      clear HO VP HFC hb hx
      go_wp2_with (at_builtin; go_must (refine wpList_append_lies _ rfl (.tmp 23) (.tmp 28) 22 rfl B 5 i0 _ 1 1 Tryz.underlying22 hi0 hi1 hi2 hi3 rfl (by decide) _ k ((lt k).flatMap U8.enc) (by rfl) HOX.out ⟨wr.heap.size, 0, none⟩ 1 1 (U8.enc (p.word[j])) (by rfl) rfl KN.out (u8_one1 (p.word[j])) (by decide) ?c1 ?c2 ?c3 _ rfl ?_))
      case c1 => unfold maxLen; omega
      case c2 => omega
      case c3 => (first | omega | (simp only [World.size_alloc]; omega))
      intro g7 cap7 w7 hown hgr hwh hlt7
      have hb7 := hbx.grown hgr hbx.size (fun q e => by have := (HOX.out.lt q e).1; omega)
      have HO7 : Hid (w7.ownsRow B 5 1 (.slice (some ⟨g7, 0, none⟩) (k + 1) cap7) (k + 1) ((lt (k + 1)).flatMap U8.enc)) := Lib.hid (by rw [HS.out, snoc_flat U8.enc]; exact hown)
      have VP7 := Lib.hid (VPX.out.grown hgr (own_ne HOX.out (by omega)))
      have HFC7 : Hid (∀ k (h : k < fr.length), w7.cell? ⟨g2, k, none⟩ = some (.int .i64 ((fr[k] : Nat) : Int))) := Lib.hid (fun k h => hgr.cell (HFX.out k h) (own_ne HOX.out (show g2 < B by omega)))
      have hB7 : B ≤ w7.heap.size := by have := hgr.size; simp only [World.size_alloc] at this; omega
      clear hown hgr hwh KN hlt7 HOX VPX HFX hbx p3 q0 HS
      go_wp2
      go_roundw
      case rel => exact ⟨k + 1, g7, cap7, by omega, by go_num, by go_num, HO7, VP7, HFC7, hB7, hb7⟩
      case measure => simp [intOf]; omega
    · obtain rfl : k = fr.length := by omega
      have hcv := own_bytes HO.out (HLN.out _ (Nat.le_refl _)).symm
      clear HO HLS
      go_wp2_with fail
      refine (HTO.out _).mono ?_
      rintro e w5 ⟨rfl, hd⟩
      replace hb := hb.trans (hd.mono hb.size)
      clear hd hcv
      go_wp2
      go_ret
      exact ⟨rfl, hb⟩
theorem rack_tiles {l : List UInt8} (h : rackOk l = true) : l.all tileB = true := by
  have h1 := (pileOk_iff.1 (rack_pile h).1).1
  rw [List.all_eq_true]
  intro c hc
  obtain ⟨j, hj, rfl⟩ := List.getElem_of_mem hc
  have := h1 j hj
  rwa [u8_at hj] at this
set_option maxRecDepth 100000 in
set_option maxHeartbeats 8000000 in
theorem legal_any (b : Brd) (p : Ply) (ws : List ByteArray) (rack : ByteArray) (a : Option Addr) (cap : Nat) (w : World) (hm : SliceAt w 1 Tx.enc a ws) (hok : b.ok = true) (hi : lexOk ws = true) (hr : rackOk rack.data.toList = true) (hs : p.word.size ≤ 1048576) (hE : CEnv w) (hL : EnvL w) :
    Calls Tryz.prog 73 #[.agg #[.int .i64 b.size, .string b.premium, .string b.cells], .agg #[.slice a ws.length cap], .string rack, .agg #[.int .i64 p.row, .int .i64 p.col, .bool p.down, .string p.word]] w fun e w' => e = .returned (.int .i64 (b.legal ws rack p)) ∧ Below w.heap.size w w' := by
  obtain ⟨n, hgd⟩ := Brd.good hok
  have HVO : Hid (∀ W, CEnv W → Calls Tryz.prog 125 #[.agg #[.int .i64 p.row, .int .i64 p.col, .bool p.down, .string p.word], .agg #[.int .i64 b.size, .string b.premium, .string b.cells]] W fun e w' => e = .returned (.bool (b.okPlay p)) ∧ Below W.heap.size W w') := Lib.hid (fun W h => validOn_any b p n W hgd hs h)
  clear hgd
  obtain ⟨w2, hw2⟩ : ∃ w2, w2 = ((w.alloc (.cells #[.int .i64 b.size, .string b.premium, .string b.cells] 25)).alloc (.cells #[.slice a ws.length cap] 28)).alloc (.cells #[.int .i64 p.row, .int .i64 p.col, .bool p.down, .string p.word] 30) := ⟨_, rfl⟩
  have hb : Below w.heap.size w w2 := by rw [hw2]; exact (((Below.refl _ _).alloc (Nat.le_refl _) _).alloc (by simp) _).alloc (by simp; omega) _
  have VB : Hid (VarAt w2 w.heap.size 25 [.int .i64 b.size, .string b.premium, .string b.cells]) := by
    rw [hw2]
    exact Lib.hid (((VarAt.new w 25 [.int .i64 b.size, .string b.premium, .string b.cells]).kept ((Below.refl _ _).alloc (Nat.le_refl _) _)).kept ((Below.refl _ _).alloc (Nat.le_refl _) _))
  have VL : Hid (VarAt w2 (w.heap.size + 1) 28 [.slice a ws.length cap]) := by
    rw [hw2]
    have := (VarAt.new (w.alloc (.cells #[.int .i64 b.size, .string b.premium, .string b.cells] 25)) 28 [.slice a ws.length cap]).kept ((Below.refl _ _).alloc (Nat.le_refl _) (.cells #[.int .i64 p.row, .int .i64 p.col, .bool p.down, .string p.word] 30))
    simp only [World.size_alloc] at this
    exact Lib.hid this
  have VP : Hid (VarAt w2 (w.heap.size + 2) 30 [.int .i64 p.row, .int .i64 p.col, .bool p.down, .string p.word]) := by
    rw [hw2]
    have := VarAt.new ((w.alloc (.cells #[.int .i64 b.size, .string b.premium, .string b.cells] 25)).alloc (.cells #[.slice a ws.length cap] 28)) 30 [.int .i64 p.row, .int .i64 p.col, .bool p.down, .string p.word]
    simp only [World.size_alloc] at this
    exact Lib.hid this
  have HM := Lib.hid (hm.kept hb)
  have HE := Lib.hid (hE.kept hb)
  have HL := Lib.hid (hL.kept hb)
  have HW2 := Lib.hid hw2
  clear hw2 hm hE hL
  cases hk : b.okPlay p with
  | false =>
    have HN := Lib.hid (legal_range (ws := ws) (rack := rack) hk)
    rw [hk] at HVO
    clear hk
    generalize b.legal ws rack p = ans at *
    go_enter Tryz.func73, Tryz.ntmps73
    go_upto_region 1 with fail
    rw [← HW2.out]
    clear HW2
    have b0 := VB.out.cell (i := 0) rfl
    have b1 := VB.out.cell (i := 1) rfl
    have b2 := VB.out.cell (i := 2) rfl
    have p0 := VP.out.cell (i := 0) rfl
    have p1 := VP.out.cell (i := 1) rfl
    have p2 := VP.out.cell (i := 2) rfl
    have p3 := VP.out.cell (i := 3) rfl
    go_wp2_with fail
    refine (HVO.out _ HE.out).mono ?_
    rintro e w3 ⟨rfl, hd⟩
    replace hb := hb.trans (hd.mono hb.size)
    clear hd b0 b1 b2 p0 p1 p2 p3
    go_wp2
    go_ret
    exact ⟨ret_int HN.out.symm, hb⟩
  | true =>
    obtain ⟨n, hp⟩ := okPlay_good hk
    have hrl : rack.size ≤ 7 := by
      have := (rack_pile hr).2
      simpa using this
    have hs12 := hp.twelve
    have hfl : (b.fresh p).length ≤ p.word.size := freshL_len _ _ _ _
    have htl : (b.tiles p).all tileB = true := List.all_eq_true.2 hp.tiles_ok
    have HHT : Hid (hasT rack.data.toList (srtL (b.tiles p)) = hasT rack.data.toList (b.tiles p)) := Lib.hid (has_congr fun k _ => cnt_perm (srt_perm htl) k)
    have hsl : (srtL (b.tiles p)).length ≤ 12 := by
      rw [srt_len htl]; unfold Brd.tiles; rw [List.length_map, placedB_len]; omega
    have hst : (srtL (b.tiles p)).all tileB = true := List.all_eq_true.2 fun c hc => pile_tiles _ 27 (Nat.le_refl _) c hc
    have HWO : Hid (∀ W, Calls Tryz.prog 165 #[.string rack, .string (mkB (srtL (b.tiles p)))] W fun e w' => ∃ t : ByteArray, e = .returned (.tuple #[.string t, .bool (hasT rack.data.toList (b.tiles p))]) ∧ Below W.heap.size W w') := Lib.hid (fun W => by
      have h3 := without_any rack (mkB (srtL (b.tiles p))) W (by omega) (by rw [mkB_size]; omega) (rack_tiles hr) (by rw [mkB_data]; exact hst)
      rw [mkB_data, HHT.out] at h3
      exact h3.mono fun e w' h => ⟨_, h⟩)
    have HLF := Lib.hid (legal_found (ws := ws) (rack := rack) hk)
    have HLS := Lib.hid (legal_state (ws := ws) (rack := rack) hk)
    have HLX := Lib.hid (legal_exists (ws := ws) (rack := rack) hk)
    have HLI := Lib.hid (legal_illegal (ws := ws) (rack := rack) hk)
    have HPT : Hid (∀ W, Calls Tryz.prog 118 #[.agg #[.int .i64 b.size, .string b.premium, .string b.cells], .agg #[.int .i64 p.row, .int .i64 p.col, .bool p.down, .string p.word]] W (StrPost W (srtL (b.tiles p)))) := Lib.hid (fun W => placedTiles_any b p n W hp)
    have HNS : Hid (∀ W, Calls Tryz.prog 121 #[.agg #[.int .i64 b.size, .string b.premium, .string b.cells], .agg #[.int .i64 p.row, .int .i64 p.col, .bool p.down, .string p.word]] W (NewPost p (b.fresh p) W)) := Lib.hid (fun W => newSquares_any b p n W hp)
    have HTC : Hid (∀ W, EnvL W → Calls Tryz.prog 80 #[.agg #[.int .i64 b.size, .string b.premium, .string b.cells], .agg #[.int .i64 p.row, .int .i64 p.col, .bool p.down, .string p.word]] W fun e w' => e = .returned (.bool (b.touch p)) ∧ Below W.heap.size W w') := Lib.hid (fun W h => touches_any b p n W hp h)
    have HWF : Hid (∀ W, Calls Tryz.prog 83 #[.agg #[.int .i64 b.size, .string b.premium, .string b.cells], .agg #[.int .i64 p.row, .int .i64 p.col, .bool p.down, .string p.word]] W (TextsPost W (b.words p))) := Lib.hid (fun W => wordsFormed_any b p n W hp)
    have HWR : Hid (∀ W, SliceAt W 1 Tx.enc a ws → Calls Tryz.prog 148 #[.agg #[.int .i64 b.size, .string b.premium, .string b.cells], .agg #[.slice a ws.length cap], .agg #[.int .i64 p.row, .int .i64 p.col, .bool p.down, .string p.word]] W (TextsPost W (wrongL ws (b.words p)))) := Lib.hid (fun W h => wrongWords_any b p n ws a cap W h hi hp)
    have HDB : Hid (b.double p = (p.down && (decide ((b.fresh p).length = 1) && decide (1 < (b.words p).length)))) := Lib.hid rfl
    have hxl := words_len hp
    have hwl : (wrongL ws (b.words p)).length ≤ 13 := Nat.le_trans (wrongL_len _ _) hxl
    rw [hk] at HVO
    clear hk hp hi hr htl hst HHT hsl
    generalize b.legal ws rack p = ans at *
    generalize wrongL ws (b.words p) = ys at *
    generalize b.words p = xs at *
    generalize b.double p = db at *
    generalize b.touch p = tc at *
    generalize srtL (b.tiles p) = st at *
    generalize hasT rack.data.toList (b.tiles p) = hv at *
    generalize b.fresh p = fr at *
    obtain ⟨r, c, d, s⟩ := p
    simp only at HPT HNS HTC HWF HWR HDB HVO VP HW2 hs12 hfl
    go_enter Tryz.func73, Tryz.ntmps73
    go_upto_region 1 with fail
    rw [← HW2.out]
    clear HW2
    have b0 := VB.out.cell (i := 0) rfl
    have b1 := VB.out.cell (i := 1) rfl
    have b2 := VB.out.cell (i := 2) rfl
    have p0 := VP.out.cell (i := 0) rfl
    have p1 := VP.out.cell (i := 1) rfl
    have p2 := VP.out.cell (i := 2) rfl
    have p3 := VP.out.cell (i := 3) rfl
    go_wp2_with fail
    refine (HVO.out _ HE.out).mono ?_
    rintro e w3 ⟨rfl, hd⟩
    replace hb := hb.trans (hd.mono hb.size)
    replace b0 := cell_kept b0 hd
    replace b1 := cell_kept b1 hd
    replace b2 := cell_kept b2 hd
    replace p0 := cell_kept p0 hd
    replace p1 := cell_kept p1 hd
    replace p2 := cell_kept p2 hd
    replace p3 := cell_kept p3 hd
    replace VL := Lib.hid (VL.out.kept hd)
    replace HM := Lib.hid (HM.out.kept hd)
    replace HL := Lib.hid (HL.out.kept hd)
    clear hd
    clear HVO HE VB VP
    go_wp2_with fail
    refine (HPT.out _).mono ?_
    rintro e w4 ⟨rfl, hd⟩
    replace hb := hb.trans (hd.mono hb.size)
    replace b0 := cell_kept b0 hd
    replace b1 := cell_kept b1 hd
    replace b2 := cell_kept b2 hd
    replace p0 := cell_kept p0 hd
    replace p1 := cell_kept p1 hd
    replace p2 := cell_kept p2 hd
    replace p3 := cell_kept p3 hd
    replace VL := Lib.hid (VL.out.kept hd)
    replace HM := Lib.hid (HM.out.kept hd)
    replace HL := Lib.hid (HL.out.kept hd)
    clear hd
    generalize mkB st = sb at *
    go_wp2_with fail
    refine (HWO.out _).mono ?_
    rintro e w5 ⟨t, rfl, hd⟩
    replace hb := hb.trans (hd.mono hb.size)
    replace b0 := cell_kept b0 hd
    replace b1 := cell_kept b1 hd
    replace b2 := cell_kept b2 hd
    replace p0 := cell_kept p0 hd
    replace p1 := cell_kept p1 hd
    replace p2 := cell_kept p2 hd
    replace p3 := cell_kept p3 hd
    replace VL := Lib.hid (VL.out.kept hd)
    replace HM := Lib.hid (HM.out.kept hd)
    replace HL := Lib.hid (HL.out.kept hd)
    clear hd
    clear HWO HPT
    cases hh : hv with
    | false =>
      have HN := Lib.hid (HLF.out hh)
      clear HLF HLS HLX HLI
      go_wp2
      go_ret
      exact ⟨ret_int HN.out.symm, hb⟩
    | true =>
      replace HLS := Lib.hid (HLS.out hh)
      replace HLX := Lib.hid (HLX.out hh)
      replace HLI := Lib.hid (HLI.out hh)
      clear HLF hh
      go_wp2_with fail
      refine (HNS.out _).mono ?_
      rintro e w6 ⟨gs, cs, gi, ci, rfl, hgg, hx, hxi, hd⟩
      clear hgg hx hxi
      replace hb := hb.trans (hd.mono hb.size)
      replace b0 := cell_kept b0 hd
      replace b1 := cell_kept b1 hd
      replace b2 := cell_kept b2 hd
      replace p0 := cell_kept p0 hd
      replace p1 := cell_kept p1 hd
      replace p2 := cell_kept p2 hd
      replace p3 := cell_kept p3 hd
      replace VL := Lib.hid (VL.out.kept hd)
      replace HM := Lib.hid (HM.out.kept hd)
      replace HL := Lib.hid (HL.out.kept hd)
      clear hd
      go_wp2_with fail
      refine (HTC.out _ HL.out).mono ?_
      rintro e w7 ⟨rfl, hd⟩
      replace hb := hb.trans (hd.mono hb.size)
      replace b0 := cell_kept b0 hd
      replace b1 := cell_kept b1 hd
      replace b2 := cell_kept b2 hd
      replace p0 := cell_kept p0 hd
      replace p1 := cell_kept p1 hd
      replace p2 := cell_kept p2 hd
      replace p3 := cell_kept p3 hd
      replace VL := Lib.hid (VL.out.kept hd)
      replace HM := Lib.hid (HM.out.kept hd)
      clear hd
      clear HTC HL HNS
      cases ht : tc with
      | false =>
        have HN := Lib.hid (HLS.out ht)
        clear HLS HLX HLI
        go_wp2
        go_ret
        exact ⟨ret_int HN.out.symm, hb⟩
      | true =>
        replace HLX := Lib.hid (HLX.out ht)
        replace HLI := Lib.hid (HLI.out ht)
        clear HLS ht
        have HTAIL : Hid (db = false → ans = if 0 < ys.length then 9 else 0) := Lib.hid HLI.out
        clear HLI
        have l0 := VL.out.cell (i := 0) rfl
        cases d with
        | false =>
          have HN := Lib.hid (HTAIL.out (by rw [HDB.out]; rfl))
          clear HTAIL HDB HLX HWF
          go_wp2_with fail
          refine (HWR.out _ HM.out).mono ?_
          rintro e w9 ⟨g3, cy, rfl, hx0, hd⟩
          replace hb := hb.trans (hd.mono hb.size)
          clear hx0 hd b0 b1 b2 p0 p1 p2 p3 l0
          by_cases h0 : 0 < ys.length
          · have HN2 : Hid (ans = 9) := Lib.hid (by rw [HN.out, if_pos h0])
            have h1 : (0 : Int) < (ys.length : Int) := by omega
            clear HN
            go_wp2
            go_ret
            exact ⟨ret_int HN2.out.symm, hb⟩
          · have HN2 : Hid (ans = 0) := Lib.hid (by rw [HN.out, if_neg h0])
            have h1 : ys.length = 0 := by omega
            rw [h1]
            clear HN
            go_wp2
            go_ret
            exact ⟨ret_int HN2.out.symm, hb⟩
        | true =>
          by_cases e1 : fr.length = 1
          · rw [e1]
            go_wp2_with fail
            refine (HWF.out _).mono ?_
            rintro e w8 ⟨g1, cx, rfl, hx0, hd⟩
            clear hx0
            replace hb := hb.trans (hd.mono hb.size)
            replace b0 := cell_kept b0 hd
            replace b1 := cell_kept b1 hd
            replace b2 := cell_kept b2 hd
            replace p0 := cell_kept p0 hd
            replace p1 := cell_kept p1 hd
            replace p2 := cell_kept p2 hd
            replace p3 := cell_kept p3 hd
            replace l0 := cell_kept l0 hd
            replace HM := Lib.hid (HM.out.kept hd)
            clear hd
            by_cases e2 : 1 < xs.length
            · have HN := Lib.hid (HLX.out (by rw [HDB.out, decide_eq_true e1, decide_eq_true e2]; rfl))
              have e3 : (1 : Int) < (xs.length : Int) := by omega
              clear HTAIL HDB HLX HWF HWR
              go_wp2
              go_ret
              exact ⟨ret_int HN.out.symm, hb⟩
            · have HN := Lib.hid (HTAIL.out (by rw [HDB.out, decide_eq_false e2, Bool.and_false, Bool.and_false]))
              have e3 : ¬ (1 : Int) < (xs.length : Int) := by omega
              clear HTAIL HDB HLX HWF
              go_wp2_with fail
              refine (HWR.out _ HM.out).mono ?_
              rintro e w9 ⟨g3, cy, rfl, hx0, hd⟩
              replace hb := hb.trans (hd.mono hb.size)
              clear hx0 hd b0 b1 b2 p0 p1 p2 p3 l0
              by_cases h0 : 0 < ys.length
              · have HN2 : Hid (ans = 9) := Lib.hid (by rw [HN.out, if_pos h0])
                have h1 : (0 : Int) < (ys.length : Int) := by omega
                clear HN
                go_wp2
                go_ret
                exact ⟨ret_int HN2.out.symm, hb⟩
              · have HN2 : Hid (ans = 0) := Lib.hid (by rw [HN.out, if_neg h0])
                have h1 : ys.length = 0 := by omega
                rw [h1]
                clear HN
                go_wp2
                go_ret
                exact ⟨ret_int HN2.out.symm, hb⟩
          · have e4 : ((fr.length : Int) == 1) = false := by rw [beq_eq_false_iff_ne]; omega
            have HN := Lib.hid (HTAIL.out (by rw [HDB.out, decide_eq_false e1, Bool.false_and, Bool.and_false]))
            clear HTAIL HDB HLX HWF e1
            go_wp2_with fail
            refine (HWR.out _ HM.out).mono ?_
            rintro e w9 ⟨g3, cy, rfl, hx0, hd⟩
            replace hb := hb.trans (hd.mono hb.size)
            clear hx0 hd b0 b1 b2 p0 p1 p2 p3 l0
            by_cases h0 : 0 < ys.length
            · have HN2 : Hid (ans = 9) := Lib.hid (by rw [HN.out, if_pos h0])
              have h1 : (0 : Int) < (ys.length : Int) := by omega
              clear HN
              go_wp2
              go_ret
              exact ⟨ret_int HN2.out.symm, hb⟩
            · have HN2 : Hid (ans = 0) := Lib.hid (by rw [HN.out, if_neg h0])
              have h1 : ys.length = 0 := by omega
              rw [h1]
              clear HN
              go_wp2
              go_ret
              exact ⟨ret_int HN2.out.symm, hb⟩
set_option maxRecDepth 100000 in
set_option maxHeartbeats 8000000 in
theorem LegalPlay_any (b : Brd) (p : Ply) (ws : List ByteArray) (rack : ByteArray) (a : Option Addr) (cap : Nat) (w : World) (hm : SliceAt w 1 Tx.enc a ws) (hf : b.fit) (hs : p.word.size ≤ 1048576) (hl : ws.length ≤ 9223372036854775807) (hwf : WordsFit ws) (hrs : rack.size ≤ 9223372036854775807) (hE : CEnv w) (hL : EnvL w) :
    Calls Tryz.prog 11 #[.agg #[.int .i64 b.size, .string b.premium, .string b.cells], .agg #[.slice a ws.length cap], .string rack, .agg #[.int .i64 p.row, .int .i64 p.col, .bool p.down, .string p.word]] w fun e w' => e = .returned (.int .i64 (b.legalPlay ws rack p)) ∧ Below w.heap.size w w' := by
  have HWF := Lib.hid hwf
  clear hwf
  obtain ⟨w2, hw2⟩ : ∃ w2, w2 = ((w.alloc (.cells #[.int .i64 b.size, .string b.premium, .string b.cells] 25)).alloc (.cells #[.slice a ws.length cap] 28)).alloc (.cells #[.int .i64 p.row, .int .i64 p.col, .bool p.down, .string p.word] 30) := ⟨_, rfl⟩
  have hb : Below w.heap.size w w2 := by rw [hw2]; exact (((Below.refl _ _).alloc (Nat.le_refl _) _).alloc (by simp) _).alloc (by simp; omega) _
  have VB : Hid (VarAt w2 w.heap.size 25 [.int .i64 b.size, .string b.premium, .string b.cells]) := by
    rw [hw2]
    exact Lib.hid (((VarAt.new w 25 [.int .i64 b.size, .string b.premium, .string b.cells]).kept ((Below.refl _ _).alloc (Nat.le_refl _) _)).kept ((Below.refl _ _).alloc (Nat.le_refl _) _))
  have VL : Hid (VarAt w2 (w.heap.size + 1) 28 [.slice a ws.length cap]) := by
    rw [hw2]
    have := (VarAt.new (w.alloc (.cells #[.int .i64 b.size, .string b.premium, .string b.cells] 25)) 28 [.slice a ws.length cap]).kept ((Below.refl _ _).alloc (Nat.le_refl _) (.cells #[.int .i64 p.row, .int .i64 p.col, .bool p.down, .string p.word] 30))
    simp only [World.size_alloc] at this
    exact Lib.hid this
  have VP : Hid (VarAt w2 (w.heap.size + 2) 30 [.int .i64 p.row, .int .i64 p.col, .bool p.down, .string p.word]) := by
    rw [hw2]
    have := VarAt.new ((w.alloc (.cells #[.int .i64 b.size, .string b.premium, .string b.cells] 25)).alloc (.cells #[.slice a ws.length cap] 28)) 30 [.int .i64 p.row, .int .i64 p.col, .bool p.down, .string p.word]
    simp only [World.size_alloc] at this
    exact Lib.hid this
  have HM := Lib.hid (hm.kept hb)
  have HE := Lib.hid (hE.kept hb)
  have HL := Lib.hid (hL.kept hb)
  have HW2 := Lib.hid hw2
  clear hw2 hm hE hL
  have HVB : Hid (∀ W, Calls Tryz.prog 70 #[.agg #[.int .i64 b.size, .string b.premium, .string b.cells]] W fun e w' => e = .returned (.bool b.ok) ∧ Below W.heap.size W w') := Lib.hid (fun W => ValidBoard_any b W hf)
  have HVL : Hid (∀ W, SliceAt W 1 Tx.enc a ws → Calls Tryz.prog 71 #[.agg #[.slice a ws.length cap]] W fun e w' => e = .returned (.bool (lexOk ws)) ∧ Below W.heap.size W w') := Lib.hid (fun W h => ValidLexicon_any ws a cap W h hl HWF.out)
  have HVR : Hid (∀ W, Calls Tryz.prog 72 #[.string rack] W fun e w' => e = .returned (.bool (rackOk rack.data.toList)) ∧ Drew W w') := Lib.hid (fun W => ValidRack_any rack W hrs)
  cases hk1 : b.ok with
  | false =>
    have HN : Hid (b.legalPlay ws rack p = 1) := Lib.hid (legalPlay_no (by rw [hk1]; rfl))
    generalize b.legalPlay ws rack p = ans at *
    rw [hk1] at HVB
    clear hk1
    go_enter Tryz.func11, Tryz.ntmps11
    go_upto_region 1 with fail
    rw [← HW2.out]
    clear HW2
    have b0 := VB.out.cell (i := 0) rfl
    have b1 := VB.out.cell (i := 1) rfl
    have b2 := VB.out.cell (i := 2) rfl
    go_wp2_with fail
    refine (HVB.out _).mono ?_
    rintro e w3 ⟨rfl, hd⟩
    replace hb := hb.trans (hd.mono hb.size)
    replace b0 := cell_kept b0 hd
    replace b1 := cell_kept b1 hd
    replace b2 := cell_kept b2 hd
    replace VL := Lib.hid (VL.out.kept hd)
    replace VP := Lib.hid (VP.out.kept hd)
    replace HM := Lib.hid (HM.out.kept hd)
    replace HE := Lib.hid (HE.out.kept hd)
    replace HL := Lib.hid (HL.out.kept hd)
    clear hd
    go_wp2
    go_ret
    exact ⟨ret_int HN.out.symm, hb⟩
  | true =>
    cases hk2 : lexOk ws with
    | false =>
      have HN : Hid (b.legalPlay ws rack p = 1) := Lib.hid (legalPlay_no (by rw [hk1, hk2]; rfl))
      generalize b.legalPlay ws rack p = ans at *
      rw [hk1] at HVB
      rw [hk2] at HVL
      clear hk1 hk2
      go_enter Tryz.func11, Tryz.ntmps11
      go_upto_region 1 with fail
      rw [← HW2.out]
      clear HW2
      have b0 := VB.out.cell (i := 0) rfl
      have b1 := VB.out.cell (i := 1) rfl
      have b2 := VB.out.cell (i := 2) rfl
      go_wp2_with fail
      refine (HVB.out _).mono ?_
      rintro e w3 ⟨rfl, hd⟩
      replace hb := hb.trans (hd.mono hb.size)
      replace b0 := cell_kept b0 hd
      replace b1 := cell_kept b1 hd
      replace b2 := cell_kept b2 hd
      replace VL := Lib.hid (VL.out.kept hd)
      replace VP := Lib.hid (VP.out.kept hd)
      replace HM := Lib.hid (HM.out.kept hd)
      replace HE := Lib.hid (HE.out.kept hd)
      replace HL := Lib.hid (HL.out.kept hd)
      clear hd
      have l0 := VL.out.cell (i := 0) rfl
      go_wp2_with fail
      refine (HVL.out _ HM.out).mono ?_
      rintro e w4 ⟨rfl, hd⟩
      replace hb := hb.trans (hd.mono hb.size)
      replace b0 := cell_kept b0 hd
      replace b1 := cell_kept b1 hd
      replace b2 := cell_kept b2 hd
      replace l0 := cell_kept l0 hd
      clear hd
      go_wp2
      go_ret
      exact ⟨ret_int HN.out.symm, hb⟩
    | true =>
      cases hk3 : rackOk rack.data.toList with
      | false =>
        have HN : Hid (b.legalPlay ws rack p = 1) := Lib.hid (legalPlay_no (by rw [hk1, hk2, hk3]; rfl))
        generalize b.legalPlay ws rack p = ans at *
        rw [hk1] at HVB
        rw [hk2] at HVL
        rw [hk3] at HVR
        clear hk1 hk2 hk3
        go_enter Tryz.func11, Tryz.ntmps11
        go_upto_region 1 with fail
        rw [← HW2.out]
        clear HW2
        have b0 := VB.out.cell (i := 0) rfl
        have b1 := VB.out.cell (i := 1) rfl
        have b2 := VB.out.cell (i := 2) rfl
        go_wp2_with fail
        refine (HVB.out _).mono ?_
        rintro e w3 ⟨rfl, hd⟩
        replace hb := hb.trans (hd.mono hb.size)
        replace b0 := cell_kept b0 hd
        replace b1 := cell_kept b1 hd
        replace b2 := cell_kept b2 hd
        replace VL := Lib.hid (VL.out.kept hd)
        replace VP := Lib.hid (VP.out.kept hd)
        replace HM := Lib.hid (HM.out.kept hd)
        replace HE := Lib.hid (HE.out.kept hd)
        replace HL := Lib.hid (HL.out.kept hd)
        clear hd
        have l0 := VL.out.cell (i := 0) rfl
        go_wp2_with fail
        refine (HVL.out _ HM.out).mono ?_
        rintro e w4 ⟨rfl, hd⟩
        replace hb := hb.trans (hd.mono hb.size)
        replace b0 := cell_kept b0 hd
        replace b1 := cell_kept b1 hd
        replace b2 := cell_kept b2 hd
        replace l0 := cell_kept l0 hd
        clear hd
        go_wp2_with fail
        refine (HVR.out _).mono ?_
        rintro e w5 ⟨rfl, hdq⟩
        have hd := hdq.bels
        clear hdq
        replace hb := hb.trans (hd.mono hb.size)
        replace b0 := cell_kept b0 hd
        replace b1 := cell_kept b1 hd
        replace b2 := cell_kept b2 hd
        replace l0 := cell_kept l0 hd
        clear hd
        go_wp2
        go_ret
        exact ⟨ret_int HN.out.symm, hb⟩
      | true =>
        have HN : Hid (b.legalPlay ws rack p = b.legal ws rack p) := Lib.hid (legalPlay_yes hk1 hk2 hk3)
        have HLG : Hid (∀ W, SliceAt W 1 Tx.enc a ws → CEnv W → EnvL W → Calls Tryz.prog 73 #[.agg #[.int .i64 b.size, .string b.premium, .string b.cells], .agg #[.slice a ws.length cap], .string rack, .agg #[.int .i64 p.row, .int .i64 p.col, .bool p.down, .string p.word]] W fun e w' => e = .returned (.int .i64 (b.legal ws rack p)) ∧ Below W.heap.size W w') := Lib.hid (fun W h1 h2 h3 => legal_any b p ws rack a cap W h1 hk1 hk2 hk3 hs h2 h3)
        rw [HN.out]
        clear HN
        generalize b.legal ws rack p = ans at *
        rw [hk1] at HVB
        rw [hk2] at HVL
        rw [hk3] at HVR
        clear hk1 hk2 hk3
        go_enter Tryz.func11, Tryz.ntmps11
        go_upto_region 1 with fail
        rw [← HW2.out]
        clear HW2
        have b0 := VB.out.cell (i := 0) rfl
        have b1 := VB.out.cell (i := 1) rfl
        have b2 := VB.out.cell (i := 2) rfl
        go_wp2_with fail
        refine (HVB.out _).mono ?_
        rintro e w3 ⟨rfl, hd⟩
        replace hb := hb.trans (hd.mono hb.size)
        replace b0 := cell_kept b0 hd
        replace b1 := cell_kept b1 hd
        replace b2 := cell_kept b2 hd
        replace VL := Lib.hid (VL.out.kept hd)
        replace VP := Lib.hid (VP.out.kept hd)
        replace HM := Lib.hid (HM.out.kept hd)
        replace HE := Lib.hid (HE.out.kept hd)
        replace HL := Lib.hid (HL.out.kept hd)
        clear hd
        have l0 := VL.out.cell (i := 0) rfl
        go_wp2_with fail
        refine (HVL.out _ HM.out).mono ?_
        rintro e w4 ⟨rfl, hd⟩
        replace hb := hb.trans (hd.mono hb.size)
        replace b0 := cell_kept b0 hd
        replace b1 := cell_kept b1 hd
        replace b2 := cell_kept b2 hd
        replace l0 := cell_kept l0 hd
        replace VP := Lib.hid (VP.out.kept hd)
        replace HM := Lib.hid (HM.out.kept hd)
        replace HE := Lib.hid (HE.out.kept hd)
        replace HL := Lib.hid (HL.out.kept hd)
        clear hd
        go_wp2_with fail
        refine (HVR.out _).mono ?_
        rintro e w5 ⟨rfl, hdq⟩
        have hd := hdq.bels
        clear hdq
        replace hb := hb.trans (hd.mono hb.size)
        replace b0 := cell_kept b0 hd
        replace b1 := cell_kept b1 hd
        replace b2 := cell_kept b2 hd
        replace l0 := cell_kept l0 hd
        replace VP := Lib.hid (VP.out.kept hd)
        replace HM := Lib.hid (HM.out.kept hd)
        replace HE := Lib.hid (HE.out.kept hd)
        replace HL := Lib.hid (HL.out.kept hd)
        clear hd
        have p0 := VP.out.cell (i := 0) rfl
        have p1 := VP.out.cell (i := 1) rfl
        have p2 := VP.out.cell (i := 2) rfl
        have p3 := VP.out.cell (i := 3) rfl
        go_wp2_with fail
        refine (HLG.out _ HM.out HE.out HL.out).mono ?_
        rintro e w6 ⟨rfl, hd⟩
        replace hb := hb.trans (hd.mono hb.size)
        clear hd
        go_wp2
        go_ret
        exact ⟨rfl, hb⟩
end Go.Proofs.YtjdcdhhbgijaoaaGreatDoor
