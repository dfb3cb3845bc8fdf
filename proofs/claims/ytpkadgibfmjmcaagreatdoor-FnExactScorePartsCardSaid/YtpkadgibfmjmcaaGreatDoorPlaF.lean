/- Contracts: the reference's test on plays; its WordsFormed. No condition but that lengths fit an int. -/
import Derived.Test.YtpkadgibfmjmcaaGreatDoorPlaE
namespace Go.Proofs.YtpkadgibfmjmcaaGreatDoor
open Go.ChangeShapes Go.WideShapes Go.ChangeAt Go.RowKit Go.Sort

/-! ### Plain -/
theorem okPlay_bad {b : Brd} {p : Ply} (h : b.ok = false) : b.okPlay p = false := by unfold Brd.okPlay; rw [h]; rfl
theorem okPlay_word {b : Brd} {p : Ply} (h : mainL p.word.data.toList = false) : b.okPlay p = false := by unfold Brd.okPlay; rw [h, Bool.and_false]; rfl
theorem okPlay_fits {b : Brd} {p : Ply} (h1 : b.ok = true) (h2 : mainL p.word.data.toList = true) : b.okPlay p = fitsF (b.flat p.down).cell (b.flat p.down).size p.flat.row p.flat.col p.word.data.toList := by
  unfold Brd.okPlay Brd.fits Brd.view
  rw [h1, h2, flat_size, Ply.flat_row, Ply.flat_col]
  rfl
theorem main_size {s : ByteArray} (h : mainL s.data.toList = true) : s.size ≤ 12 := by
  have := (mainL_iff.1 h).2.1
  simpa using this
theorem words_form (b : Brd) (p : Ply) : b.words p = (formB (b.view p) p.r p.c p.word (b.fresh p)).map fun s => mkB (lowL s.data.toList) := by
  unfold Brd.words Brd.formed formB
  simp only [List.map_cons, List.map_map]
  refine congrArg _ (List.map_congr_left fun l _ => ?_)
  simp only [Function.comp, mkB_data]
theorem take_tx {xs : List ByteArray} {k : Nat} (h : k < xs.length) (f : ByteArray → ByteArray) : (xs.take (k + 1)).map f = (xs.take k).map f ++ [f xs[k]] := by
  rw [List.take_succ_eq_append_getElem h, List.map_append]
  rfl

set_option maxRecDepth 100000 in
set_option maxHeartbeats 4000000 in
theorem l12Ok_any (b : Brd) (p : Ply) (g o : Nat) (w : World) (hg : BAt w g o b) (hf : b.fit) (hp : p.fit) :
    Calls Tryz.prog 46 #[.pointer (some ⟨g, o, none⟩), .agg #[.int .i64 p.row, .int .i64 p.col, .bool p.down, .string p.word]] w fun e w' => e = .returned (.bool (b.okPlay p)) ∧ Below w.heap.size w w' := by
  have hlt := hg.lt
  have hpw : p.word.size ≤ 9223372036854775807 := hp
  have hb : Below w.heap.size w (w.alloc (.cells #[.int .i64 p.row, .int .i64 p.col, .bool p.down, .string p.word] 38)) := (Below.refl _ _).alloc (Nat.le_refl _) _
  have V0 := Lib.hid (VarAt.new w 38 [.int .i64 p.row, .int .i64 p.col, .bool p.down, .string p.word])
  have HG := Lib.hid (hg.kept hb)
  clear hg
  cases h1 : b.ok with
  | false =>
    have HN := Lib.hid (okPlay_bad (p := p) h1)
    go_enter Tryz.func46, Tryz.ntmps46
    go_upto_region 1 with fail
    generalize w.alloc (.cells #[.int .i64 p.row, .int .i64 p.col, .bool p.down, .string p.word] 38) = w1 at *
    go_wp2_with fail
    refine (l11Ok_any b g o _ HG.out hf).mono ?_
    rintro e w2 ⟨rfl, hdq⟩
    have hd := hdq.bels
    clear hdq
    replace hb := hb.trans (hd.mono hb.size)
    replace V0 := Lib.hid (V0.out.kept hd)
    replace HG := Lib.hid (HG.out.kept hd)
    clear hd
    rw [h1]
    clear h1
    go_wp2
    go_ret
    exact ⟨ret_bool HN.out.symm, hb⟩
  | true =>
    cases h2 : mainL p.word.data.toList with
    | false =>
      have HN := Lib.hid (okPlay_word (b := b) h2)
      go_enter Tryz.func46, Tryz.ntmps46
      go_upto_region 1 with fail
      generalize w.alloc (.cells #[.int .i64 p.row, .int .i64 p.col, .bool p.down, .string p.word] 38) = w1 at *
      go_wp2_with fail
      refine (l11Ok_any b g o _ HG.out hf).mono ?_
      rintro e w2 ⟨rfl, hdq⟩
      have hd := hdq.bels
      clear hdq
      replace hb := hb.trans (hd.mono hb.size)
      replace V0 := Lib.hid (V0.out.kept hd)
      replace HG := Lib.hid (HG.out.kept hd)
      clear hd
      rw [h1]
      clear h1
      have c3 := V0.out.cell (i := 3) rfl
      go_wp2_with fail
      refine (l12Word_any p.word _ hpw).mono ?_
      rintro e w3 ⟨rfl, rfl⟩
      rw [h2]
      clear h2
      go_wp2
      go_ret
      exact ⟨ret_bool HN.out.symm, hb⟩
    | true =>
      have HN := Lib.hid (okPlay_fits h1 h2)
      have H12 := Lib.hid (main_size h2)
      obtain ⟨n, hgd⟩ := Brd.good h1
      have HGD := Lib.hid hgd
      have HGF := Lib.hid (hgd.flat p.down)
      clear hgd
      go_enter Tryz.func46, Tryz.ntmps46
      go_upto_region 1 with fail
      generalize w.alloc (.cells #[.int .i64 p.row, .int .i64 p.col, .bool p.down, .string p.word] 38) = w1 at *
      go_wp2_with fail
      refine (l11Ok_any b g o _ HG.out hf).mono ?_
      rintro e w2 ⟨rfl, hdq⟩
      have hd := hdq.bels
      clear hdq
      replace hb := hb.trans (hd.mono hb.size)
      replace V0 := Lib.hid (V0.out.kept hd)
      replace HG := Lib.hid (HG.out.kept hd)
      clear hd
      rw [h1]
      clear h1
      have c0 := V0.out.cell (i := 0) rfl
      have c1 := V0.out.cell (i := 1) rfl
      have c2 := V0.out.cell (i := 2) rfl
      have c3 := V0.out.cell (i := 3) rfl
      go_wp2_with fail
      refine (l12Word_any p.word _ hpw).mono ?_
      rintro e w3 ⟨rfl, rfl⟩
      rw [h2]
      clear h2
      go_wp2_with fail
      refine (l12Flat_any b p n g o _ HGD.out HG.out).mono ?_
      rintro e w4 ⟨rfl, hd⟩
      unfold flatV
      clear c0 c1 c2 c3
      replace hb := hb.trans (hd.mono hb.size)
      replace V0 := Lib.hid (V0.out.kept hd)
      clear hd
      generalize b.flat p.down = f at *
      generalize p.flat.row = fr at *
      generalize p.flat.col = fc at *
      generalize p.flat.down = fd at *
      have HF : Hid (BAt ((w4.alloc (.cells #[.int .i64 f.size, .string f.premium, .string f.cells] 36)).alloc (.cells #[.int .i64 fr, .int .i64 fc, .bool fd, .string p.word] 38)) w4.heap.size 0 f) := Lib.hid ((BAt.new w4 f 36).kept ((Below.refl _ _).alloc (Nat.le_refl _) _))
      have hd : Below w4.heap.size w4 ((w4.alloc (.cells #[.int .i64 f.size, .string f.premium, .string f.cells] 36)).alloc (.cells #[.int .i64 fr, .int .i64 fc, .bool fd, .string p.word] 38)) := ((Below.refl _ _).alloc (Nat.le_refl _) _).alloc (by simp) _
      replace hb := hb.trans (hd.mono hb.size)
      clear hd
      go_wp2_with fail
      refine (l12Fits_any f n fr fc fd p.word w4.heap.size 0 _ HGF.out HF.out H12.out).mono ?_
      rintro e w5 ⟨rfl, hd⟩
      replace hb := hb.trans (hd.mono hb.size)
      clear hd
      go_wp2
      go_ret
      exact ⟨ret_bool HN.out.symm, hb⟩
set_option maxRecDepth 100000 in
set_option maxHeartbeats 4000000 in
theorem l12Words_any (b : Brd) (p : Ply) (n : Nat) (g o : Nat) (w : World) (hg : BAt w g o b) (hp : PGood b p n) :
    Calls Tryz.prog 174 #[.pointer (some ⟨g, o, none⟩), .agg #[.int .i64 p.row, .int .i64 p.col, .bool p.down, .string p.word]] w (TextsPost w (b.words p)) := by
  obtain ⟨i0, hi0, hi1, hi2, hi3⟩ := info_parts infoTx
  have hlt := hg.lt
  have hb : Below w.heap.size w (w.alloc (.cells #[.int .i64 p.row, .int .i64 p.col, .bool p.down, .string p.word] 38)) := (Below.refl _ _).alloc (Nat.le_refl _) _
  have V0 := Lib.hid (VarAt.new w 38 [.int .i64 p.row, .int .i64 p.col, .bool p.down, .string p.word])
  have HG := Lib.hid (hg.kept hb)
  clear hg
  have hn15 := hp.good.hi
  have hs12 := hp.twelve
  have HGD := Lib.hid hp.good
  have HFO : Hid (∀ x W, BAt W x 0 (b.flat p.down) → Calls Tryz.prog 173 #[.pointer (some ⟨x, 0, none⟩), .agg #[.int .i64 p.flat.row, .int .i64 p.flat.col, .bool p.flat.down, .string p.word]] W (TextsPost W (formB (b.view p) p.r p.c p.word (b.fresh p)))) := Lib.hid (fun x W h => by
    have := l12Formed_any (b.flat p.down) n p.flat.row p.flat.col p.flat.down p.word x 0 W (hp.good.flat p.down) h hp.twelve (by rw [Ply.flat_row]; exact hp.r0) (by rw [Ply.flat_row]; exact hp.r1) (by rw [Ply.flat_col]; exact hp.c0) (by rw [Ply.flat_col]; exact hp.c1)
    rw [Ply.flat_row, Ply.flat_col] at this ⊢
    exact this)
  have HWF := Lib.hid (words_form b p)
  have HXS := Lib.hid (formB_size (F := b.view p) (R := p.r) (C := p.c) (is := b.fresh p) hs12)
  have hxl := formB_len (b.view p) p.r p.c p.word (b.fresh p)
  have hfl : (b.fresh p).length ≤ p.word.size := freshL_len _ _ _ _
  obtain ⟨sm, hsm⟩ : ∃ sm : ByteArray → ByteArray, ∀ s, sm s = mkB (lowL s.data.toList) := ⟨_, fun _ => rfl⟩
  have HSM : Hid (∀ s W, s.size ≤ 1048576 → Calls Tryz.prog 203 #[.string s] W fun e w' => e = .returned (.string (sm s)) ∧ Below W.heap.size W w') := Lib.hid (fun s W h => by rw [hsm]; exact l03Small_any s W h)
  have HWS : Hid (b.words p = (formB (b.view p) p.r p.c p.word (b.fresh p)).map sm) := Lib.hid (by rw [HWF.out]; exact List.map_congr_left fun s _ => (hsm s).symm)
  rw [HWS.out]
  clear HWF HWS hsm hp
  generalize formB (b.view p) p.r p.c p.word (b.fresh p) = xs at *
  go_enter Tryz.func174, Tryz.ntmps174
  go_upto_region 1 with fail
  generalize w.alloc (.cells #[.int .i64 p.row, .int .i64 p.col, .bool p.down, .string p.word] 38) = w1 at *
  have c0 := V0.out.cell (i := 0) rfl
  have c1 := V0.out.cell (i := 1) rfl
  have c2 := V0.out.cell (i := 2) rfl
  have c3 := V0.out.cell (i := 3) rfl
  go_wp2_with fail
  refine (l12Flat_any b p n g o _ HGD.out HG.out).mono ?_
  rintro e w4 ⟨rfl, hd⟩
  unfold flatV
  clear c0 c1 c2 c3
  replace hb := hb.trans (hd.mono hb.size)
  replace V0 := Lib.hid (V0.out.kept hd)
  clear hd
  generalize b.flat p.down = f at *
  generalize p.flat.row = fr at *
  generalize p.flat.col = fc at *
  generalize p.flat.down = fd at *
  have HF : Hid (BAt ((w4.alloc (.cells #[.int .i64 f.size, .string f.premium, .string f.cells] 36)).alloc (.cells #[.int .i64 fr, .int .i64 fc, .bool fd, .string p.word] 38)) w4.heap.size 0 f) := Lib.hid ((BAt.new w4 f 36).kept ((Below.refl _ _).alloc (Nat.le_refl _) _))
  have hd : Below w4.heap.size w4 ((w4.alloc (.cells #[.int .i64 f.size, .string f.premium, .string f.cells] 36)).alloc (.cells #[.int .i64 fr, .int .i64 fc, .bool fd, .string p.word] 38)) := ((Below.refl _ _).alloc (Nat.le_refl _) _).alloc (by simp) _
  replace hb := hb.trans (hd.mono hb.size)
  clear hd
  have hz := hb.size
  go_wp2_with fail
  refine (HFO.out _ _ HF.out).mono ?_
  rintro e w5 ⟨gx, cx, rfl, hx0, hd⟩
  have hgx := (hx0.lt gx rfl).1
  have HX := Lib.hid (own_mono hx0 (show w.heap.size ≤ _ by omega))
  clear hx0 HF HFO
  replace hb := hb.trans (hd.mono hb.size)
  clear hd
  generalize hxsl : xs.length = m at *
  have HO : Hid ((w5.alloc (.cells #[] 9)).ownsRow w.heap.size 9 1 (.slice (some ⟨w5.heap.size, 0, none⟩) 0 0) 0 (((xs.map sm).take 0).flatMap Tx.enc)) := Lib.hid (World.ownsRow_made (base := w.heap.size) (e := 9) (size := 1) w5 #[] 0 hb.size (by unfold maxLen; omega) rfl)
  have hgx5 := (HX.out.lt gx rfl).2
  have hd : Below w5.heap.size w5 (w5.alloc (.cells #[] 9)) := (Below.refl _ _).alloc (Nat.le_refl _) _
  replace hb := hb.trans (hd.mono hb.size)
  replace HX := Lib.hid (own_below HX.out hd)
  clear hd
  go_wp2_with fail
  go_loopw [8, 9] (fun ov iv wr => ∃ (k g1 cap : Nat), k ≤ m ∧ iv = .int .i64 k ∧ ov = .slice (some ⟨g1, 0, none⟩) k cap ∧ g1 ≠ gx ∧ gx < wr.heap.size ∧ Hid (wr.ownsRow w.heap.size 9 1 (.slice (some ⟨g1, 0, none⟩) k cap) k (((xs.map sm).take k).flatMap Tx.enc)) ∧ Hid (wr.ownsRow w.heap.size 9 1 (.slice (some ⟨gx, 0, none⟩) m cx) m (xs.flatMap Tx.enc)) ∧ Below w.heap.size w wr) (fun _ iv _ => m - (intOf iv).toNat)
  case atStart => exact ⟨0, _, 0, Nat.zero_le _, rfl, rfl, by omega, (HX.out.lt gx rfl).2, HO, HX, hb⟩
  case round =>
    clear HO HX hb
    obtain ⟨k, g1, cap, hk, rfl, rfl, hne, hgw, HO, HX, hb⟩ := hrel
    by_cases hkm : k < m
    · obtain ⟨s, hse⟩ : ∃ s, s = xs[k]'(by omega) := ⟨_, rfl⟩
      have hkf : k < xs.length := by omega
      have HTK : Hid ((xs.map sm).take (k + 1) = (xs.map sm).take k ++ [sm s]) := Lib.hid (by rw [← List.map_take, ← List.map_take, take_tx hkf, hse])
      have hsz : s.size ≤ 33 := by rw [hse]; exact HXS.out _ (List.getElem_mem _)
      have cx0 := row_txt HX.out hkf
      rw [← hse] at cx0
      clear hse hkf
      go_wp2_with fail
      refine (HSM.out s _ (by omega)).mono ?_
      rintro e wq ⟨rfl, hd⟩
      have hgw2 := Nat.lt_of_lt_of_le hgw hd.size
      clear cx0
      replace hb := hb.trans (hd.mono hb.size)
      replace HO := Lib.hid (own_below HO.out hd)
      replace HX := Lib.hid (own_below HX.out hd)
      clear hd
      generalize sm s = y at *
      have hx : Below wq.heap.size wq (wq.alloc (.cells #[.string y] 9)) := (Below.refl _ _).alloc (Nat.le_refl _) _
      have KN := Lib.hid (new_tx wq y 9)
      have hz3 := hb.size
      replace hb := hb.trans (hx.mono hb.size)
      replace HO := Lib.hid (own_below HO.out hx)
      replace HX := Lib.hid (own_below HX.out hx)
      clear hx
      go_wp2_with (at_builtin; go_must (refine wpList_append_lies _ rfl (.tmp 25) (.tmp 31) 45 rfl w.heap.size 9 i0 _ 1 16 Tryz.underlying45 hi0 hi1 hi2 hi3 rfl (by decide) _ k (((xs.map sm).take k).flatMap Tx.enc) (by rfl) HO.out ⟨wq.heap.size, 0, none⟩ 1 1 (Tx.enc y) (by rfl) rfl KN.out (tx_one y) (by decide) ?c1 ?c2 ?c3 _ rfl ?_))
      case c1 => unfold maxLen; omega
      case c2 => omega
      case c3 => (first | omega | (simp only [World.size_alloc]; omega))
      intro g7 cap7 w7 hown hgr hwh hlt7
      have hb7 := hb.grown hgr hb.size (fun q e => by have := (HO.out.lt q e).1; omega)
      have HO7 : Hid (w7.ownsRow w.heap.size 9 1 (.slice (some ⟨g7, 0, none⟩) (k + 1) cap7) (k + 1) (((xs.map sm).take (k + 1)).flatMap Tx.enc)) := Lib.hid (by
        rw [HTK.out, snoc_flat Tx.enc]; exact hown)
      have hne7 : g7 ≠ gx := by
        rcases hwh with h | h
        · simp [Value.ownBlock] at h; omega
        · rw [h]; (first | omega | (simp only [World.size_alloc]; omega))
      have HX7 := Lib.hid (HX.out.kept hgr (.inr (by simp [Value.ownBlock]; omega)))
      have hgw7 : gx < w7.heap.size := Nat.lt_of_lt_of_le (by (first | omega | (simp only [World.size_alloc]; omega))) hgr.size
      clear hown hgr hwh KN HO hb HX HTK
      go_wp2
      go_roundw
      case rel => exact ⟨k + 1, g7, cap7, by omega, by go_num, by go_num, hne7, hgw7, HO7, HX7, hb7⟩
      case measure => simp [intOf]; omega
    · obtain rfl : k = m := by omega
      have hO := HO.out
      rw [List.take_of_length_le (by rw [List.length_map]; omega)] at hO
      have HON := Lib.hid hO
      have HL : Hid ((xs.map sm).length = k) := Lib.hid (by rw [List.length_map]; exact hxsl)
      clear hO HO
      go_wp2
      go_ret
      exact ⟨g1, cap, by rw [HL.out]; rfl, by rw [HL.out]; exact HON.out, hb⟩
/-- what WordsFormed returns -/
def WordsPost (b : Brd) (p : Ply) (w : World) (e : Ending) (w' : World) : Prop :=
  if b.okPlay p then ∃ g cap, e = .returned (.tuple #[.slice (some ⟨g, 0, none⟩) (b.words p).length cap, .int .i64 0]) ∧ w'.ownsRow w.heap.size 9 1 (.slice (some ⟨g, 0, none⟩) (b.words p).length cap) (b.words p).length ((b.words p).flatMap Tx.enc) ∧ Below w.heap.size w w'
  else e = .returned (.tuple #[.slice none 0 0, .int .i64 1]) ∧ Below w.heap.size w w'
theorem words_no {b : Brd} {p : Ply} {w : World} (h : b.okPlay p = false) (e : Ending) (w' : World) (k : e = .returned (.tuple #[.slice none 0 0, .int .i64 1]) ∧ Below w.heap.size w w') : WordsPost b p w e w' := by
  unfold WordsPost
  rw [h]
  exact k
theorem words_yes {b : Brd} {p : Ply} {w : World} (h : b.okPlay p = true) (e : Ending) (w' : World) (k : ∃ g cap, e = .returned (.tuple #[.slice (some ⟨g, 0, none⟩) (b.words p).length cap, .int .i64 0]) ∧ w'.ownsRow w.heap.size 9 1 (.slice (some ⟨g, 0, none⟩) (b.words p).length cap) (b.words p).length ((b.words p).flatMap Tx.enc) ∧ Below w.heap.size w w') : WordsPost b p w e w' := by
  unfold WordsPost
  rw [h]
  exact k
end Go.Proofs.YtpkadgibfmjmcaaGreatDoor
