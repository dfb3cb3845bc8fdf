/- Contracts: the reference's codes of plays: whether a down play is an across play too, the first fault of a play, LegalPlay. No condition but that lengths fit an int. -/
import Derived.Test.YtpkadgibfmjmcaaGreatDoorLgE
import Derived.Test.YtpkadgibfmjmcaaGreatDoorToA
import Derived.Test.YtpkadgibfmjmcaaGreatDoorWrB
namespace Go.Proofs.YtpkadgibfmjmcaaGreatDoor
open Go.ChangeShapes Go.WideShapes Go.ChangeAt Go.RowKit Go.Sort

/-! ### Plain -/
/-- a down play of one tile that forms an across word too -/
def Brd.double (b : Brd) (p : Ply) : Bool := p.down && (decide ((b.fresh p).length = 1) && decide (1 < (b.words p).length))
/-- the tiles that a play places, in order -/
def Brd.tiles (b : Brd) (p : Ply) : List UInt8 := (placedB p.word (b.fresh p)).map tlC
/-- the first fault of a play -/
def Brd.legal (b : Brd) (ws : List ByteArray) (rack : ByteArray) (p : Ply) : Int :=
  if b.okPlay p = false then 2 else if hasT rack.data.toList (b.tiles p) = false then 3 else if b.touch p = false then 6 else if b.double p = true then 4 else if 0 < (wrongL ws (b.words p)).length then 9 else 0
def Brd.legalPlay (b : Brd) (ws : List ByteArray) (rack : ByteArray) (p : Ply) : Int :=
  if (b.ok && (lexOk ws && rackOk rack.data.toList)) = false then 1 else b.legal ws rack p
theorem legal_range {b : Brd} {ws : List ByteArray} {rack : ByteArray} {p : Ply} (h : b.okPlay p = false) : b.legal ws rack p = 2 := by unfold Brd.legal; rw [if_pos h]
theorem legal_found {b : Brd} {ws : List ByteArray} {rack : ByteArray} {p : Ply} (h : b.okPlay p = true) (h2 : hasT rack.data.toList (b.tiles p) = false) : b.legal ws rack p = 3 := by unfold Brd.legal; rw [h, h2]; rfl
theorem legal_state {b : Brd} {ws : List ByteArray} {rack : ByteArray} {p : Ply} (h : b.okPlay p = true) (h2 : hasT rack.data.toList (b.tiles p) = true) (h3 : b.touch p = false) : b.legal ws rack p = 6 := by unfold Brd.legal; rw [h, h2, h3]; rfl
theorem legal_exists {b : Brd} {ws : List ByteArray} {rack : ByteArray} {p : Ply} (h : b.okPlay p = true) (h2 : hasT rack.data.toList (b.tiles p) = true) (h3 : b.touch p = true) (h4 : b.double p = true) : b.legal ws rack p = 4 := by unfold Brd.legal; rw [h, h2, h3, h4]; rfl
theorem legal_illegal {b : Brd} {ws : List ByteArray} {rack : ByteArray} {p : Ply} (h : b.okPlay p = true) (h2 : hasT rack.data.toList (b.tiles p) = true) (h3 : b.touch p = true) (h4 : b.double p = false) : b.legal ws rack p = if 0 < (wrongL ws (b.words p)).length then 9 else 0 := by unfold Brd.legal; rw [h, h2, h3, h4]; rfl
theorem PGood.tiles_ok {b : Brd} {p : Ply} {n : Nat} (h : PGood b p n) : ∀ c ∈ b.tiles p, tileB c = true := by
  intro c hc
  unfold Brd.tiles placedB at hc
  obtain ⟨d, hd, rfl⟩ := List.mem_map.1 hc
  obtain ⟨i, hi, rfl⟩ := List.mem_map.1 hd
  have hl := (freshL_lt hi).1
  refine tile_of_let ?_
  rw [u8_byte hl]
  exact (List.all_eq_true.1 h.letters) _ (by rw [← bytes_get p.word i hl]; exact List.getElem_mem _)
/-- the reference's way of taking tiles answers as the plain law -/
theorem take_tiles {a : ByteArray} {R L : List UInt8} (ha : pileOk a.data.toList = true) (hR : SortedT R) (hp : R.Perm L) (hL : ∀ c ∈ L, tileB c = true) : decide (takeK R a.data.toList = R.length) = hasT a.data.toList L := by
  rw [take_has (pile_sorted ha) hR (fun c hc => hL c (hp.mem_iff.1 hc))]
  exact has_congr fun k _ => cnt_perm hp k
set_option maxRecDepth 100000 in
set_option maxHeartbeats 4000000 in
theorem l12Double_any (b : Brd) (p : Ply) (n : Nat) (g o : Nat) (w : World) (hg : BAt w g o b) (hp : PGood b p n) :
    Calls Tryz.prog 123 #[.pointer (some ⟨g, o, none⟩), .agg #[.int .i64 p.row, .int .i64 p.col, .bool p.down, .string p.word]] w fun e w' => e = .returned (.bool (b.double p)) ∧ Below w.heap.size w w' := by
  have hlt := hg.lt
  have hb : Below w.heap.size w (w.alloc (.cells #[.int .i64 p.row, .int .i64 p.col, .bool p.down, .string p.word] 38)) := (Below.refl _ _).alloc (Nat.le_refl _) _
  have V0 := Lib.hid (VarAt.new w 38 [.int .i64 p.row, .int .i64 p.col, .bool p.down, .string p.word])
  have HG := Lib.hid (hg.kept hb)
  clear hg
  have HGD := Lib.hid hp.good
  have HDB : Hid (b.double p = (p.down && (decide ((b.fresh p).length = 1) && decide (1 < (formB (b.view p) p.r p.c p.word (b.fresh p)).length)))) := Lib.hid (by unfold Brd.double; rw [words_form, List.length_map])
  have HFO : Hid (∀ x W, BAt W x 0 (b.flat p.down) → Calls Tryz.prog 173 #[.pointer (some ⟨x, 0, none⟩), .agg #[.int .i64 p.flat.row, .int .i64 p.flat.col, .bool p.flat.down, .string p.word]] W (TextsPost W (formB (b.view p) p.r p.c p.word (b.fresh p)))) := Lib.hid (fun x W h => by
    have := l12Formed_any (b.flat p.down) n p.flat.row p.flat.col p.flat.down p.word x 0 W (hp.good.flat p.down) h hp.twelve (by rw [Ply.flat_row]; exact hp.r0) (by rw [Ply.flat_row]; exact hp.r1) (by rw [Ply.flat_col]; exact hp.c0) (by rw [Ply.flat_col]; exact hp.c1)
    rw [Ply.flat_row, Ply.flat_col] at this ⊢
    exact this)
  have HFR : Hid (∀ x W, BAt W x 0 (b.flat p.down) → Calls Tryz.prog 96 #[.pointer (some ⟨x, 0, none⟩), .agg #[.int .i64 p.flat.row, .int .i64 p.flat.col, .bool p.flat.down, .string p.word]] W (NatsPost W (b.fresh p))) := Lib.hid (fun x W h => by
    have := l12Fresh_any (b.flat p.down) n p.flat.row p.flat.col p.flat.down p.word x 0 W (hp.good.flat p.down) h hp.twelve (by rw [Ply.flat_row]; exact hp.r0) (by rw [Ply.flat_row]; exact hp.r1) (by rw [Ply.flat_col]; exact hp.c0) (by rw [Ply.flat_col]; exact hp.c1)
    rw [Ply.flat_row, Ply.flat_col] at this ⊢
    exact this)
  have hxl := formB_len (b.view p) p.r p.c p.word (b.fresh p)
  have hfl : (b.fresh p).length ≤ p.word.size := freshL_len _ _ _ _
  have hs12 := hp.twelve
  clear hp
  generalize b.double p = ans at *
  generalize formB (b.view p) p.r p.c p.word (b.fresh p) = xs at *
  generalize b.fresh p = fr at *
  go_enter Tryz.func123, Tryz.ntmps123
  go_upto_region 1 with fail
  generalize w.alloc (.cells #[.int .i64 p.row, .int .i64 p.col, .bool p.down, .string p.word] 38) = w1 at *
  have c0 := V0.out.cell (i := 0) rfl
  have c1 := V0.out.cell (i := 1) rfl
  have c2 := V0.out.cell (i := 2) rfl
  have c3 := V0.out.cell (i := 3) rfl
  cases hdn : p.down with
  | false =>
    have HN : Hid (ans = false) := Lib.hid (by rw [HDB.out, hdn]; rfl)
    clear HDB
    rw [hdn] at c2
    go_wp2
    go_ret
    exact ⟨ret_bool HN.out.symm, hb⟩
  | true =>
    have HN : Hid (ans = (decide (fr.length = 1) && decide (1 < xs.length))) := Lib.hid (by rw [HDB.out, hdn, Bool.true_and])
    clear HDB
    have HFT : Hid (∀ W, BAt W g o b → Calls Tryz.prog 47 #[.pointer (some ⟨g, o, none⟩), .agg #[.int .i64 p.row, .int .i64 p.col, .bool true, .string p.word]] W fun e w' => e = .returned (flatV b p) ∧ Below W.heap.size W w') := Lib.hid (fun W h => by
      have h3 := l12Flat_any b p n g o W HGD.out h
      rw [show Value.bool p.down = Value.bool true from by rw [hdn]] at h3
      exact h3)
    rw [hdn] at c2
    go_upto_region 3 with fail
    go_wp2_with fail
    refine (HFT.out _ HG.out).mono ?_
    rintro e w4 ⟨rfl, hd⟩
    unfold flatV
    clear c0 c1 c2 c3
    replace hb := hb.trans (hd.mono hb.size)
    replace HG := Lib.hid (HG.out.kept hd)
    clear hd
    generalize b.flat p.down = f at *
    generalize p.flat.row = fr0 at *
    generalize p.flat.col = fc at *
    generalize p.flat.down = fd at *
    have HF : Hid (BAt ((w4.alloc (.cells #[.int .i64 f.size, .string f.premium, .string f.cells] 36)).alloc (.cells #[.int .i64 fr0, .int .i64 fc, .bool fd, .string p.word] 38)) w4.heap.size 0 f) := Lib.hid ((BAt.new w4 f 36).kept ((Below.refl _ _).alloc (Nat.le_refl _) _))
    have HQ : Hid (VarAt ((w4.alloc (.cells #[.int .i64 f.size, .string f.premium, .string f.cells] 36)).alloc (.cells #[.int .i64 fr0, .int .i64 fc, .bool fd, .string p.word] 38)) (w4.heap.size + 1) 38 [.int .i64 fr0, .int .i64 fc, .bool fd, .string p.word]) := Lib.hid (by
      have := VarAt.new (w4.alloc (.cells #[.int .i64 f.size, .string f.premium, .string f.cells] 36)) 38 [.int .i64 fr0, .int .i64 fc, .bool fd, .string p.word]
      simp only [World.size_alloc] at this
      exact this)
    have hd : Below w4.heap.size w4 ((w4.alloc (.cells #[.int .i64 f.size, .string f.premium, .string f.cells] 36)).alloc (.cells #[.int .i64 fr0, .int .i64 fc, .bool fd, .string p.word] 38)) := ((Below.refl _ _).alloc (Nat.le_refl _) _).alloc (by simp) _
    replace hb := hb.trans (hd.mono hb.size)
    replace HG := Lib.hid (HG.out.kept hd)
    clear hd
    go_upto_region 4 with fail
    generalize (w4.alloc (.cells #[.int .i64 f.size, .string f.premium, .string f.cells] 36)).alloc (.cells #[.int .i64 fr0, .int .i64 fc, .bool fd, .string p.word] 38) = w5 at *
    have c0 := HQ.out.cell (i := 0) rfl
    have c1 := HQ.out.cell (i := 1) rfl
    have c2 := HQ.out.cell (i := 2) rfl
    have c3 := HQ.out.cell (i := 3) rfl
    go_wp2_with fail
    refine (HFR.out _ _ HF.out).mono ?_
    rintro e w6 ⟨g1, cx, rfl, hx0, hd⟩
    clear hx0
    replace hb := hb.trans (hd.mono hb.size)
    replace c0 := cell_kept c0 hd
    replace c1 := cell_kept c1 hd
    replace c2 := cell_kept c2 hd
    replace c3 := cell_kept c3 hd
    replace HF := Lib.hid (HF.out.kept hd)
    clear hd
    by_cases e1 : fr.length = 1
    · have HN2 : Hid (ans = decide (1 < xs.length)) := Lib.hid (by rw [HN.out, decide_eq_true e1, Bool.true_and])
      rw [e1]
      clear HN e1
      go_wp2_with fail
      refine (HFO.out _ _ HF.out).mono ?_
      rintro e w7 ⟨g2, cy, rfl, hx0, hd⟩
      clear hx0
      replace hb := hb.trans (hd.mono hb.size)
      clear hd
      go_wp2
      go_ret
      exact ⟨ret_bool (by rw [HN2.out]; exact decide_eq_decide.2 (by omega)), hb⟩
    · have e2 : ((fr.length : Int) == 1) = false := by rw [beq_eq_false_iff_ne]; omega
      have HN2 : Hid (ans = false) := Lib.hid (by rw [HN.out, decide_eq_false e1, Bool.false_and])
      clear HN e1 HFO
      go_wp2
      go_ret
      exact ⟨ret_bool HN2.out.symm, hb⟩
set_option maxRecDepth 100000 in
set_option maxHeartbeats 8000000 in
theorem l12Legal_any (b : Brd) (p : Ply) (ws : List ByteArray) (rack : ByteArray) (a : Option Addr) (cap : Nat) (g o lg lo : Nat) (w : World) (hg : BAt w g o b) (hlc : w.cell? ⟨lg, lo, none⟩ = some (.slice a ws.length cap)) (hm : SliceAt w 1 Tx.enc a ws) (hf : b.fit) (hpf : p.fit) (hi : lexOk ws = true) (hr : rackOk rack.data.toList = true) :
    Calls Tryz.prog 56 #[.pointer (some ⟨g, o, none⟩), .pointer (some ⟨lg, lo, none⟩), .string rack, .agg #[.int .i64 p.row, .int .i64 p.col, .bool p.down, .string p.word]] w fun e w' => e = .returned (.int .i64 (b.legal ws rack p)) ∧ Below w.heap.size w w' := by
  have hlt := hg.lt
  have hb : Below w.heap.size w (w.alloc (.cells #[.int .i64 p.row, .int .i64 p.col, .bool p.down, .string p.word] 38)) := (Below.refl _ _).alloc (Nat.le_refl _) _
  have V0 := Lib.hid (VarAt.new w 38 [.int .i64 p.row, .int .i64 p.col, .bool p.down, .string p.word])
  have HG := Lib.hid (hg.kept hb)
  have HM := Lib.hid (hm.kept hb)
  have HL := Lib.hid (cell_kept hlc hb)
  have HOK : Hid (∀ W, BAt W g o b → Calls Tryz.prog 46 #[.pointer (some ⟨g, o, none⟩), .agg #[.int .i64 p.row, .int .i64 p.col, .bool p.down, .string p.word]] W fun e w' => e = .returned (.bool (b.okPlay p)) ∧ Below W.heap.size W w') := Lib.hid (fun W h => l12Ok_any b p g o W h hf hpf)
  clear hg hm hlc
  cases hk : b.okPlay p with
  | false =>
    have HN := Lib.hid (legal_range (ws := ws) (rack := rack) hk)
    rw [hk] at HOK
    clear hk
    generalize b.legal ws rack p = ans at *
    go_enter Tryz.func56, Tryz.ntmps56
    go_upto_region 1 with fail
    generalize w.alloc (.cells #[.int .i64 p.row, .int .i64 p.col, .bool p.down, .string p.word] 38) = w1 at *
    have c0 := V0.out.cell (i := 0) rfl
    have c1 := V0.out.cell (i := 1) rfl
    have c2 := V0.out.cell (i := 2) rfl
    have c3 := V0.out.cell (i := 3) rfl
    go_wp2_with fail
    refine (HOK.out _ HG.out).mono ?_
    rintro e w3 ⟨rfl, hd⟩
    replace hb := hb.trans (hd.mono hb.size)
    clear hd c0 c1 c2 c3
    go_wp2
    go_ret
    exact ⟨ret_int HN.out.symm, hb⟩
  | true =>
    obtain ⟨n, hp⟩ := okPlay_good hk
    have hrl : rack.size ≤ 7 := by
      have := (rack_pile hr).2
      simpa using this
    have hs12 := hp.twelve
    have hfl : (b.fresh p).length ≤ p.word.size := freshL_len _ _ _ _
    have HTK : Hid (∀ R : List UInt8, SortedT R → R.Perm (b.tiles p) → decide (takeK R rack.data.toList = R.length) = hasT rack.data.toList (b.tiles p)) := Lib.hid (fun R h1 h2 => take_tiles (rack_pile hr).1 h1 h2 hp.tiles_ok)
    have HLF := Lib.hid (legal_found (ws := ws) (rack := rack) hk)
    have HLS := Lib.hid (legal_state (ws := ws) (rack := rack) hk)
    have HLE := Lib.hid (legal_exists (ws := ws) (rack := rack) hk)
    have HLI := Lib.hid (legal_illegal (ws := ws) (rack := rack) hk)
    have HFL : Hid (∀ W, BAt W g o b → Calls Tryz.prog 47 #[.pointer (some ⟨g, o, none⟩), .agg #[.int .i64 p.row, .int .i64 p.col, .bool p.down, .string p.word]] W fun e w' => e = .returned (flatV b p) ∧ Below W.heap.size W w') := Lib.hid (fun W h => l12Flat_any b p n g o W hp.good h)
    have HPL : Hid (∀ x W, BAt W x 0 (b.flat p.down) → Calls Tryz.prog 121 #[.pointer (some ⟨x, 0, none⟩), .agg #[.int .i64 p.flat.row, .int .i64 p.flat.col, .bool p.flat.down, .string p.word]] W (StrPost W (placedB p.word (b.fresh p)))) := Lib.hid (fun x W h => by
      refine l12Placed_of (b.flat p.down) p.flat.row p.flat.col p.flat.down p.word (b.fresh p) x W h (Lib.hid (fun W2 h2 => ?_)) (fun i hi => (freshL_lt hi).1) (by omega)
      have := l12Fresh_any (b.flat p.down) n p.flat.row p.flat.col p.flat.down p.word x 0 W2 (hp.good.flat p.down) h2 hp.twelve (by rw [Ply.flat_row]; exact hp.r0) (by rw [Ply.flat_row]; exact hp.r1) (by rw [Ply.flat_col]; exact hp.c0) (by rw [Ply.flat_col]; exact hp.c1)
      rw [Ply.flat_row, Ply.flat_col] at this ⊢
      exact this)
    have HTI : Hid (∀ W, Calls Tryz.prog 120 #[.string (mkB (placedB p.word (b.fresh p)))] W (SortPost W (b.tiles p))) := Lib.hid (fun W => by
      have := l03Tiles_any (mkB (placedB p.word (b.fresh p))) W (by rw [mkB_size, placedB_len]; omega)
      rw [mkB_data] at this
      exact this)
    have HTO : Hid (∀ W, BAt W g o b → Calls Tryz.prog 122 #[.pointer (some ⟨g, o, none⟩), .agg #[.int .i64 p.row, .int .i64 p.col, .bool p.down, .string p.word]] W fun e w' => e = .returned (.bool (b.touch p)) ∧ Below W.heap.size W w') := Lib.hid (fun W h => l12Touches_any b p n g o W h hp)
    have HDO : Hid (∀ W, BAt W g o b → Calls Tryz.prog 123 #[.pointer (some ⟨g, o, none⟩), .agg #[.int .i64 p.row, .int .i64 p.col, .bool p.down, .string p.word]] W fun e w' => e = .returned (.bool (b.double p)) ∧ Below W.heap.size W w') := Lib.hid (fun W h => l12Double_any b p n g o W h hp)
    have HWR : Hid (∀ W, BAt W g o b → W.cell? ⟨lg, lo, none⟩ = some (.slice a ws.length cap) → SliceAt W 1 Tx.enc a ws → Calls Tryz.prog 124 #[.pointer (some ⟨g, o, none⟩), .pointer (some ⟨lg, lo, none⟩), .agg #[.int .i64 p.row, .int .i64 p.col, .bool p.down, .string p.word]] W (TextsPost W (wrongL ws (b.words p)))) := Lib.hid (fun W h1 h2 h3 => l12Wrong_any b p n ws a cap g o lg lo W h1 h2 h3 hp hi)
    have HTA : Hid (∀ R : List UInt8, SortedT R → R.Perm (b.tiles p) → ∀ W, Calls Tryz.prog 119 #[.string rack, .string (mkB R)] W fun e w' => ∃ t : ByteArray, e = .returned (.tuple #[.string t, .bool (hasT rack.data.toList (b.tiles p))]) ∧ Below W.heap.size W w') := Lib.hid (fun R h1 h2 W => by
      have h3 := l03Take_any rack (mkB R) W (by omega) (by rw [mkB_size, h2.length_eq]; unfold Brd.tiles; rw [List.length_map, placedB_len]; omega)
      rw [mkB_data, HTK.out R h1 h2] at h3
      exact h3)
    rw [hk] at HOK
    have hbl : (b.tiles p).length ≤ 12 := by unfold Brd.tiles; rw [List.length_map, placedB_len]; omega
    have hwl : (wrongL ws (b.words p)).length ≤ 13 := Nat.le_trans (wrongL_len _ _) (words_len hp)
    clear hk hp hr hi hf hpf HTK
    generalize b.legal ws rack p = ans at *
    generalize wrongL ws (b.words p) = xs at *
    generalize b.double p = db at *
    generalize b.touch p = tc at *
    generalize placedB p.word (b.fresh p) = pb at *
    generalize b.tiles p = tl at *
    go_enter Tryz.func56, Tryz.ntmps56
    go_upto_region 1 with fail
    generalize w.alloc (.cells #[.int .i64 p.row, .int .i64 p.col, .bool p.down, .string p.word] 38) = w1 at *
    have c0 := V0.out.cell (i := 0) rfl
    have c1 := V0.out.cell (i := 1) rfl
    have c2 := V0.out.cell (i := 2) rfl
    have c3 := V0.out.cell (i := 3) rfl
    go_wp2_with fail
    refine (HOK.out _ HG.out).mono ?_
    rintro e w3 ⟨rfl, hd⟩
    replace HL := Lib.hid (cell_kept HL.out hd)
    replace hb := hb.trans (hd.mono hb.size)
    replace c0 := cell_kept c0 hd
    replace c1 := cell_kept c1 hd
    replace c2 := cell_kept c2 hd
    replace c3 := cell_kept c3 hd
    replace V0 := Lib.hid (V0.out.kept hd)
    replace HG := Lib.hid (HG.out.kept hd)
    replace HM := Lib.hid (HM.out.kept hd)
    clear hd
    go_wp2_with fail
    refine (HFL.out _ HG.out).mono ?_
    rintro e w4 ⟨rfl, hd⟩
    unfold flatV
    replace HL := Lib.hid (cell_kept HL.out hd)
    replace hb := hb.trans (hd.mono hb.size)
    replace c0 := cell_kept c0 hd
    replace c1 := cell_kept c1 hd
    replace c2 := cell_kept c2 hd
    replace c3 := cell_kept c3 hd
    replace V0 := Lib.hid (V0.out.kept hd)
    replace HG := Lib.hid (HG.out.kept hd)
    replace HM := Lib.hid (HM.out.kept hd)
    clear hd
    generalize b.flat p.down = f at *
    generalize p.flat.row = fr0 at *
    generalize p.flat.col = fc at *
    generalize p.flat.down = fd at *
    have HF : Hid (BAt ((w4.alloc (.cells #[.int .i64 f.size, .string f.premium, .string f.cells] 36)).alloc (.cells #[.int .i64 fr0, .int .i64 fc, .bool fd, .string p.word] 38)) w4.heap.size 0 f) := Lib.hid ((BAt.new w4 f 36).kept ((Below.refl _ _).alloc (Nat.le_refl _) _))
    have HQ : Hid (VarAt ((w4.alloc (.cells #[.int .i64 f.size, .string f.premium, .string f.cells] 36)).alloc (.cells #[.int .i64 fr0, .int .i64 fc, .bool fd, .string p.word] 38)) (w4.heap.size + 1) 38 [.int .i64 fr0, .int .i64 fc, .bool fd, .string p.word]) := Lib.hid (by
      have := VarAt.new (w4.alloc (.cells #[.int .i64 f.size, .string f.premium, .string f.cells] 36)) 38 [.int .i64 fr0, .int .i64 fc, .bool fd, .string p.word]
      simp only [World.size_alloc] at this
      exact this)
    have hd : Below w4.heap.size w4 ((w4.alloc (.cells #[.int .i64 f.size, .string f.premium, .string f.cells] 36)).alloc (.cells #[.int .i64 fr0, .int .i64 fc, .bool fd, .string p.word] 38)) := ((Below.refl _ _).alloc (Nat.le_refl _) _).alloc (by simp) _
    replace HL := Lib.hid (cell_kept HL.out hd)
    clear c0 c1 c2 c3
    replace hb := hb.trans (hd.mono hb.size)
    replace V0 := Lib.hid (V0.out.kept hd)
    replace HG := Lib.hid (HG.out.kept hd)
    replace HM := Lib.hid (HM.out.kept hd)
    clear hd
    go_upto_region 4 with fail
    generalize (w4.alloc (.cells #[.int .i64 f.size, .string f.premium, .string f.cells] 36)).alloc (.cells #[.int .i64 fr0, .int .i64 fc, .bool fd, .string p.word] 38) = w5 at *
    have q0 := HQ.out.cell (i := 0) rfl
    have q1 := HQ.out.cell (i := 1) rfl
    have q2 := HQ.out.cell (i := 2) rfl
    have q3 := HQ.out.cell (i := 3) rfl
    go_wp2_with fail
    refine (HPL.out _ _ HF.out).mono ?_
    rintro e w6 ⟨rfl, hd⟩
    replace HL := Lib.hid (cell_kept HL.out hd)
    clear q0 q1 q2 q3 HF HQ
    replace hb := hb.trans (hd.mono hb.size)
    replace V0 := Lib.hid (V0.out.kept hd)
    replace HG := Lib.hid (HG.out.kept hd)
    replace HM := Lib.hid (HM.out.kept hd)
    clear hd
    go_wp2_with fail
    refine (HTI.out _).mono ?_
    rintro e w7 ⟨R, rfl, hr1, hr2, hd⟩
    have HTR := Lib.hid (HTA.out R hr1 hr2)
    clear hr1 hr2
    replace HL := Lib.hid (cell_kept HL.out hd)
    replace hb := hb.trans (hd.mono hb.size)
    replace V0 := Lib.hid (V0.out.kept hd)
    replace HG := Lib.hid (HG.out.kept hd)
    replace HM := Lib.hid (HM.out.kept hd)
    clear hd
    generalize mkB R = mr at *
    go_wp2_with fail
    refine (HTR.out _).mono ?_
    rintro e w8 ⟨t, rfl, hd⟩
    replace HL := Lib.hid (cell_kept HL.out hd)
    replace hb := hb.trans (hd.mono hb.size)
    replace V0 := Lib.hid (V0.out.kept hd)
    replace HG := Lib.hid (HG.out.kept hd)
    replace HM := Lib.hid (HM.out.kept hd)
    clear hd
    clear HTR HTA HTI HPL HFL HOK
    cases hh : hasT rack.data.toList tl with
    | false =>
      have HN := Lib.hid (HLF.out hh)
      clear HLF HLS HLE HLI
      go_wp2
      go_ret
      exact ⟨ret_int HN.out.symm, hb⟩
    | true =>
      replace HLS := Lib.hid (HLS.out hh)
      replace HLE := Lib.hid (HLE.out hh)
      replace HLI := Lib.hid (HLI.out hh)
      clear HLF hh
      have c0 := V0.out.cell (i := 0) rfl
      have c1 := V0.out.cell (i := 1) rfl
      have c2 := V0.out.cell (i := 2) rfl
      have c3 := V0.out.cell (i := 3) rfl
      go_wp2_with fail
      refine (HTO.out _ HG.out).mono ?_
      rintro e w9 ⟨rfl, hd⟩
      replace HL := Lib.hid (cell_kept HL.out hd)
      replace hb := hb.trans (hd.mono hb.size)
      replace c0 := cell_kept c0 hd
      replace c1 := cell_kept c1 hd
      replace c2 := cell_kept c2 hd
      replace c3 := cell_kept c3 hd
      replace HG := Lib.hid (HG.out.kept hd)
      replace HM := Lib.hid (HM.out.kept hd)
      clear hd
      cases ht : tc with
      | false =>
        have HN := Lib.hid (HLS.out ht)
        clear HLS HLE HLI
        go_wp2
        go_ret
        exact ⟨ret_int HN.out.symm, hb⟩
      | true =>
        replace HLE := Lib.hid (HLE.out ht)
        replace HLI := Lib.hid (HLI.out ht)
        clear HLS ht
        go_wp2_with fail
        refine (HDO.out _ HG.out).mono ?_
        rintro e w10 ⟨rfl, hd⟩
        replace HL := Lib.hid (cell_kept HL.out hd)
        replace hb := hb.trans (hd.mono hb.size)
        replace c0 := cell_kept c0 hd
        replace c1 := cell_kept c1 hd
        replace c2 := cell_kept c2 hd
        replace c3 := cell_kept c3 hd
        replace HG := Lib.hid (HG.out.kept hd)
        replace HM := Lib.hid (HM.out.kept hd)
        clear hd
        cases hdb : db with
        | true =>
          have HN := Lib.hid (HLE.out hdb)
          clear HLE HLI
          go_wp2
          go_ret
          exact ⟨ret_int HN.out.symm, hb⟩
        | false =>
          have HN := Lib.hid (HLI.out hdb)
          clear HLE HLI hdb
          go_wp2_with fail
          refine (HWR.out _ HG.out HL.out HM.out).mono ?_
          rintro e w11 ⟨g1, cx, rfl, hx0, hd⟩
          replace hb := hb.trans (hd.mono hb.size)
          clear hx0 hd
          by_cases h0 : 0 < xs.length
          · have HN2 : Hid (ans = 9) := Lib.hid (by rw [HN.out, if_pos h0])
            clear HN
            go_wp2
            go_ret
            exact ⟨ret_int HN2.out.symm, hb⟩
          · have HN2 : Hid (ans = 0) := Lib.hid (by rw [HN.out, if_neg h0])
            have h1 : xs.length = 0 := by omega
            rw [h1]
            clear HN
            go_wp2
            go_ret
            exact ⟨ret_int HN2.out.symm, hb⟩
/-- the code when an argument is not valid -/
theorem legalPlay_no {b : Brd} {ws : List ByteArray} {rack : ByteArray} {p : Ply} (h : (b.ok && (lexOk ws && rackOk rack.data.toList)) = false) : b.legalPlay ws rack p = 1 := by unfold Brd.legalPlay; rw [if_pos h]
theorem legalPlay_yes {b : Brd} {ws : List ByteArray} {rack : ByteArray} {p : Ply} (h1 : b.ok = true) (h2 : lexOk ws = true) (h3 : rackOk rack.data.toList = true) : b.legalPlay ws rack p = b.legal ws rack p := by unfold Brd.legalPlay; rw [h1, h2, h3]; rfl
set_option maxRecDepth 100000 in
set_option maxHeartbeats 4000000 in
theorem specLegalPlay_any (b : Brd) (p : Ply) (ws : List ByteArray) (rack : ByteArray) (a : Option Addr) (cap : Nat) (w : World) (hm : SliceAt w 1 Tx.enc a ws) (hf : b.fit) (hpf : p.fit) (hl : ws.length ≤ 9223372036854775807) (hwf : WordsFit ws) (hr : rack.size ≤ 9223372036854775807) :
    Calls Tryz.prog 24 #[.agg #[.int .i64 b.size, .string b.premium, .string b.cells], .agg #[.slice a ws.length cap], .string rack, .agg #[.int .i64 p.row, .int .i64 p.col, .bool p.down, .string p.word]] w fun e w' => e = .returned (.int .i64 (b.legalPlay ws rack p)) ∧ Below w.heap.size w w' := by
  obtain ⟨w2, hw2⟩ : ∃ w2, w2 = ((w.alloc (.cells #[.int .i64 b.size, .string b.premium, .string b.cells] 36)).alloc (.cells #[.slice a ws.length cap] 50)).alloc (.cells #[.int .i64 p.row, .int .i64 p.col, .bool p.down, .string p.word] 38) := ⟨_, rfl⟩
  have hb : Below w.heap.size w w2 := by rw [hw2]; exact (((Below.refl _ _).alloc (Nat.le_refl _) _).alloc (by simp) _).alloc (by simp; omega) _
  have hz2 : w.heap.size + 2 < w2.heap.size := by rw [hw2]; simp
  have HG : Hid (BAt w2 w.heap.size 0 b) := by
    rw [hw2]
    exact Lib.hid (((BAt.new w b 36).kept ((Below.refl _ _).alloc (Nat.le_refl _) _)).kept ((Below.refl _ _).alloc (Nat.le_refl _) _))
  have VL : Hid (VarAt w2 (w.heap.size + 1) 50 [.slice a ws.length cap]) := by
    rw [hw2]
    have := (VarAt.new (w.alloc (.cells #[.int .i64 b.size, .string b.premium, .string b.cells] 36)) 50 [.slice a ws.length cap]).kept ((Below.refl _ _).alloc (Nat.le_refl _) (.cells #[.int .i64 p.row, .int .i64 p.col, .bool p.down, .string p.word] 38))
    simp only [World.size_alloc] at this
    exact Lib.hid this
  have V0 : Hid (VarAt w2 (w.heap.size + 2) 38 [.int .i64 p.row, .int .i64 p.col, .bool p.down, .string p.word]) := by
    rw [hw2]
    have := VarAt.new ((w.alloc (.cells #[.int .i64 b.size, .string b.premium, .string b.cells] 36)).alloc (.cells #[.slice a ws.length cap] 50)) 38 [.int .i64 p.row, .int .i64 p.col, .bool p.down, .string p.word]
    simp only [World.size_alloc] at this
    exact Lib.hid this
  have HM := Lib.hid (hm.kept hb)
  have HW2 := Lib.hid hw2
  clear hw2 hm
  have HWF := Lib.hid hwf
  clear hwf
  have HOK : Hid (∀ W, W.cell? ⟨w.heap.size + 1, 0, none⟩ = some (.slice a ws.length cap) → SliceAt W 1 Tx.enc a ws → Calls Tryz.prog 54 #[.pointer (some ⟨w.heap.size + 1, 0, none⟩)] W fun e w' => e = .returned (.bool (lexOk ws)) ∧ Drew W w') := Lib.hid (fun W h1 h2 => l05Ok_any ws _ 0 a cap W h1 h2 hl HWF.out)
  have HRK : Hid (∀ W, Calls Tryz.prog 55 #[.string rack] W fun e w' => e = .returned (.bool (rackOk rack.data.toList)) ∧ Drew W w') := Lib.hid (fun W => l03Rack_any rack W hr)
  cases hk1 : b.ok with
  | false =>
    have HN : Hid (b.legalPlay ws rack p = 1) := Lib.hid (legalPlay_no (by rw [hk1]; rfl))
    generalize b.legalPlay ws rack p = ans at *
    go_enter Tryz.func24, Tryz.ntmps24
    go_upto_region 1 with fail
    rw [← HW2.out]
    clear HW2
    have l0 := VL.out.cell (i := 0) rfl
    go_wp2_with fail
    refine (l11Ok_any b w.heap.size 0 _ HG.out hf).mono ?_
    rintro e w3 ⟨rfl, hdq⟩
    have hd := hdq.bels
    clear hdq
    replace hb := hb.trans (hd.mono hb.size)
    replace l0 := cell_kept l0 hd
    replace VL := Lib.hid (VL.out.kept hd)
    replace HG := Lib.hid (HG.out.kept hd)
    replace HM := Lib.hid (HM.out.kept hd)
    replace V0 := Lib.hid (V0.out.kept hd)
    clear hd
    rw [hk1]
    clear hk1
    go_wp2
    go_ret
    exact ⟨ret_int HN.out.symm, hb⟩
  | true =>
    cases hk2 : lexOk ws with
    | false =>
      have HN : Hid (b.legalPlay ws rack p = 1) := Lib.hid (legalPlay_no (by rw [hk1, hk2]; rfl))
      generalize b.legalPlay ws rack p = ans at *
      rw [hk2] at HOK
      go_enter Tryz.func24, Tryz.ntmps24
      go_upto_region 1 with fail
      rw [← HW2.out]
      clear HW2 hk2
      have l0 := VL.out.cell (i := 0) rfl
      go_wp2_with fail
      refine (l11Ok_any b w.heap.size 0 _ HG.out hf).mono ?_
      rintro e w3 ⟨rfl, hdq⟩
      have hd := hdq.bels
      clear hdq
      replace hb := hb.trans (hd.mono hb.size)
      replace l0 := cell_kept l0 hd
      replace VL := Lib.hid (VL.out.kept hd)
      replace HG := Lib.hid (HG.out.kept hd)
      replace HM := Lib.hid (HM.out.kept hd)
      replace V0 := Lib.hid (V0.out.kept hd)
      clear hd
      rw [hk1]
      clear hk1
      go_wp2_with fail
      refine (HOK.out _ (VL.out.cell (i := 0) rfl) HM.out).mono ?_
      rintro e w4 ⟨rfl, hdq⟩
      have hd := hdq.bels
      clear hdq
      replace hb := hb.trans (hd.mono hb.size)
      replace HG := Lib.hid (HG.out.kept hd)
      clear hd
      go_wp2
      go_ret
      exact ⟨ret_int HN.out.symm, hb⟩
    | true =>
      cases hk3 : rackOk rack.data.toList with
      | false =>
        have HN : Hid (b.legalPlay ws rack p = 1) := Lib.hid (legalPlay_no (by rw [hk1, hk2, hk3]; rfl))
        generalize b.legalPlay ws rack p = ans at *
        rw [hk2] at HOK
        rw [hk3] at HRK
        go_enter Tryz.func24, Tryz.ntmps24
        go_upto_region 1 with fail
        rw [← HW2.out]
        clear HW2 hk2 hk3
        have l0 := VL.out.cell (i := 0) rfl
        go_wp2_with fail
        refine (l11Ok_any b w.heap.size 0 _ HG.out hf).mono ?_
        rintro e w3 ⟨rfl, hdq⟩
        have hd := hdq.bels
        clear hdq
        replace hb := hb.trans (hd.mono hb.size)
        replace l0 := cell_kept l0 hd
        replace VL := Lib.hid (VL.out.kept hd)
        replace HG := Lib.hid (HG.out.kept hd)
        replace HM := Lib.hid (HM.out.kept hd)
        replace V0 := Lib.hid (V0.out.kept hd)
        clear hd
        rw [hk1]
        clear hk1
        go_wp2_with fail
        refine (HOK.out _ (VL.out.cell (i := 0) rfl) HM.out).mono ?_
        rintro e w4 ⟨rfl, hdq⟩
        have hd := hdq.bels
        clear hdq
        replace hb := hb.trans (hd.mono hb.size)
        replace HG := Lib.hid (HG.out.kept hd)
        clear hd
        go_wp2_with fail
        refine (HRK.out _).mono ?_
        rintro e w5 ⟨rfl, hdq⟩
        have hd := hdq.bels
        clear hdq
        replace hb := hb.trans (hd.mono hb.size)
        replace HG := Lib.hid (HG.out.kept hd)
        clear hd
        go_wp2
        go_ret
        exact ⟨ret_int HN.out.symm, hb⟩
      | true =>
        have HN : Hid (b.legalPlay ws rack p = b.legal ws rack p) := Lib.hid (legalPlay_yes hk1 hk2 hk3)
        have HLG : Hid (∀ W, BAt W w.heap.size 0 b → W.cell? ⟨w.heap.size + 1, 0, none⟩ = some (.slice a ws.length cap) → SliceAt W 1 Tx.enc a ws → Calls Tryz.prog 56 #[.pointer (some ⟨w.heap.size, 0, none⟩), .pointer (some ⟨w.heap.size + 1, 0, none⟩), .string rack, .agg #[.int .i64 p.row, .int .i64 p.col, .bool p.down, .string p.word]] W fun e w' => e = .returned (.int .i64 (b.legal ws rack p)) ∧ Below W.heap.size W w') := Lib.hid (fun W h1 h2 h3 => l12Legal_any b p ws rack a cap _ 0 _ 0 W h1 h2 h3 hf hpf hk2 hk3)
        rw [HN.out]
        clear HN
        generalize b.legal ws rack p = ans at *
        rw [hk2] at HOK
        rw [hk3] at HRK
        go_enter Tryz.func24, Tryz.ntmps24
        go_upto_region 1 with fail
        rw [← HW2.out]
        clear HW2 hk2 hk3
        have l0 := VL.out.cell (i := 0) rfl
        go_wp2_with fail
        refine (l11Ok_any b w.heap.size 0 _ HG.out hf).mono ?_
        rintro e w3 ⟨rfl, hdq⟩
        have hd := hdq.bels
        clear hdq
        replace hb := hb.trans (hd.mono hb.size)
        replace l0 := cell_kept l0 hd
        replace VL := Lib.hid (VL.out.kept hd)
        replace HG := Lib.hid (HG.out.kept hd)
        replace HM := Lib.hid (HM.out.kept hd)
        replace V0 := Lib.hid (V0.out.kept hd)
        clear hd
        rw [hk1]
        clear hk1
        go_wp2_with fail
        refine (HOK.out _ (VL.out.cell (i := 0) rfl) HM.out).mono ?_
        rintro e w4 ⟨rfl, hdq⟩
        have hd := hdq.bels
        clear hdq
        replace hb := hb.trans (hd.mono hb.size)
        replace l0 := cell_kept l0 hd
        replace HG := Lib.hid (HG.out.kept hd)
        replace HM := Lib.hid (HM.out.kept hd)
        replace V0 := Lib.hid (V0.out.kept hd)
        clear hd
        go_wp2_with fail
        refine (HRK.out _).mono ?_
        rintro e w5 ⟨rfl, hdq⟩
        have hd := hdq.bels
        clear hdq
        replace hb := hb.trans (hd.mono hb.size)
        replace l0 := cell_kept l0 hd
        replace HG := Lib.hid (HG.out.kept hd)
        replace HM := Lib.hid (HM.out.kept hd)
        replace V0 := Lib.hid (V0.out.kept hd)
        clear hd
        have c0 := V0.out.cell (i := 0) rfl
        have c1 := V0.out.cell (i := 1) rfl
        have c2 := V0.out.cell (i := 2) rfl
        have c3 := V0.out.cell (i := 3) rfl
        go_wp2_with fail
        refine (HLG.out _ HG.out l0 HM.out).mono ?_
        rintro e w6 ⟨rfl, hd⟩
        replace hb := hb.trans (hd.mono hb.size)
        clear hd
        go_wp2
        go_ret
        exact ⟨rfl, hb⟩
end Go.Proofs.YtpkadgibfmjmcaaGreatDoor
