/- Contracts: the reference's words that a play forms and a lexicon does not have; its WrongWords. No condition but that lengths fit an int. -/
import Derived.Test.YtofcampipllegaaGreatDoorLex
import Derived.Test.YtofcampipllegaaGreatDoorPlaD
namespace Go.Proofs.YtofcampipllegaaGreatDoor
open Go.ChangeShapes Go.WideShapes Go.ChangeAt Go.RowKit Go.Sort

/-- the words of a list that a lexicon does not have -/
def wrongL (ws xs : List ByteArray) : List ByteArray := xs.filter fun x => !hasW ws x
theorem wrongL_yes {ws xs : List ByteArray} {x : ByteArray} (h : hasW ws x = true) : wrongL ws (xs ++ [x]) = wrongL ws xs := by
 unfold wrongL
 rw [List.filter_append, List.filter_cons, h]
 simp
theorem wrongL_no {ws xs : List ByteArray} {x : ByteArray} (h : hasW ws x = false) : wrongL ws (xs ++ [x]) = wrongL ws xs ++ [x] := by
 unfold wrongL
 rw [List.filter_append, List.filter_cons, h]
 simp
theorem wrongL_len (ws xs : List ByteArray) : (wrongL ws xs).length ≤ xs.length := List.length_filter_le _ _
theorem take_one {xs : List ByteArray} {k : Nat} (h : k < xs.length) {x : ByteArray} (hx : xs[k] = x) : xs.take (k + 1) = xs.take k ++ [x] := by
 rw [List.take_succ_eq_append_getElem h, hx]
theorem words_len {b : Brd} {p : Ply} {n : Nat} (h : PGood b p n) : (b.words p).length ≤ 13 := by
 have h0 := congrArg List.length (words_form b p)
 rw [List.length_map] at h0
 have h1 := formB_len (b.view p) p.r p.c p.word (b.fresh p)
 have h2 : (b.fresh p).length ≤ p.word.size := freshL_len _ _ _ _
 have h3 := h.twelve
 omega
set_option maxRecDepth 100000 in
set_option maxHeartbeats 4000000 in
theorem l12Wrong_any (b : Brd) (p : Ply) (n : Nat) (ws : List ByteArray) (a : Option Addr) (cap : Nat) (g o lg lo : Nat) (w : World) (hg : BAt w g o b) (hlc : w.cell? ⟨lg, lo, none⟩ = some (.slice a ws.length cap)) (hm : SliceAt w 1 Tx.enc a ws) (hp : PGood b p n) (hi : lexOk ws = true) :
  Calls Tryz.prog 158 #[.pointer (some ⟨g, o, none⟩), .pointer (some ⟨lg, lo, none⟩), .agg #[.int .i64 p.row, .int .i64 p.col, .bool p.down, .string p.word]] w (TextsPost w (wrongL ws (b.words p))) := by
 obtain ⟨i0, hi0, hi1, hi2, hi3⟩ := info_parts infoTx
 have hb : Below w.heap.size w (w.alloc (.cells #[.int .i64 p.row, .int .i64 p.col, .bool p.down, .string p.word] 61)) := (Below.refl _ _).alloc (Nat.le_refl _) _
 have V0 := Lib.hid (VarAt.new w 61 [.int .i64 p.row, .int .i64 p.col, .bool p.down, .string p.word])
 have hlg := block_lt hlc
 have HG := Lib.hid (hg.kept hb)
 have HLC := Lib.hid hlc
 have HM := Lib.hid hm
 have hxl := words_len hp
 have HWO : Hid (∀ W, BAt W g o b → Calls Tryz.prog 157 #[.pointer (some ⟨g, o, none⟩), .agg #[.int .i64 p.row, .int .i64 p.col, .bool p.down, .string p.word]] W (TextsPost W (b.words p))) := Lib.hid (fun W h => l12Words_any b p n g o W h hp)
 have HHA : Hid (∀ x W, SliceAt W 1 Tx.enc a ws → Calls Tryz.prog 228 #[.slice a ws.length cap, .string x] W fun e w' => e = .returned (.bool (hasW ws x)) ∧ W = w') := Lib.hid (fun x W h => l05Has_any ws a cap x W h hi)
 have HWY := Lib.hid (fun xs x h => wrongL_yes (ws := ws) (xs := xs) (x := x) h)
 have HWN := Lib.hid (fun xs x h => wrongL_no (ws := ws) (xs := xs) (x := x) h)
 have HWL := Lib.hid (fun xs => wrongL_len ws xs)
 have HW0 : Hid (wrongL ws [] = []) := Lib.hid rfl
 obtain ⟨has, hhas⟩ : ∃ has : ByteArray → Bool, ∀ x, has x = hasW ws x := ⟨_, fun _ => rfl⟩
 simp only [← hhas] at HHA HWY HWN
 clear hg hlc hm hp hi hhas
 generalize b.words p = xs at *
 generalize wrongL ws = wl at *
 go_enter Tryz.func158, Tryz.ntmps158
 go_upto_region 1 with fail
 generalize w.alloc (.cells #[.int .i64 p.row, .int .i64 p.col, .bool p.down, .string p.word] 61) = w1 at *
 have c0 := V0.out.cell (i := 0) rfl
 have c1 := V0.out.cell (i := 1) rfl
 have c2 := V0.out.cell (i := 2) rfl
 have c3 := V0.out.cell (i := 3) rfl
 go_wp2_with fail
 refine (HWO.out _ HG.out).mono ?_
 rintro e w5 ⟨gx, cx, rfl, hx0, hd⟩
 have hz := hb.size
 have hgx := (hx0.lt gx rfl).1
 have HX := Lib.hid (own_mono hx0 (show w.heap.size ≤ _ by omega))
 clear hx0 c0 c1 c2 c3 HG HWO V0
 replace hb := hb.trans (hd.mono hb.size)
 clear hd
 have HR : Hid (∀ k, k < xs.length → ∃ x : ByteArray, xs.take (k + 1) = xs.take k ++ [x] ∧ ∀ W : World, W.ownsRow w.heap.size 9 1 (.slice (some ⟨gx, 0, none⟩) xs.length cx) xs.length (xs.flatMap Tx.enc) → W.cell? ⟨gx, k, none⟩ = some (.string x)) := Lib.hid (fun k h => ⟨xs[k], take_one h rfl, fun W hx => row_txt hx h⟩)
 generalize hxsl : xs.length = m at *
 have HXL := Lib.hid hxsl
 clear hxsl
 have HO : Hid ((w5.alloc (.cells #[] 9)).ownsRow w.heap.size 9 1 (.slice (some ⟨w5.heap.size, 0, none⟩) (wl (xs.take 0)).length 0) (wl (xs.take 0)).length ((wl (xs.take 0)).flatMap Tx.enc)) := Lib.hid (by
  rw [List.take_zero, HW0.out]
  exact World.ownsRow_made (base := w.heap.size) (e := 9) (size := 1) w5 #[] 0 hb.size (by unfold maxLen; omega) rfl)
 have hl0 : (wl (xs.take 0)).length = 0 := by rw [List.take_zero, HW0.out]; rfl
 have hgx5 := (HX.out.lt gx rfl).2
 have hd : Below w5.heap.size w5 (w5.alloc (.cells #[] 9)) := (Below.refl _ _).alloc (Nat.le_refl _) _
 replace hb := hb.trans (hd.mono hb.size)
 replace HX := Lib.hid (own_below HX.out hd)
 clear hd
 go_wp2_with fail
 go_loopw [8, 9] (fun ov iv wr => ∃ (k g1 cp : Nat), k ≤ m ∧ iv = .int .i64 k ∧ ov = .slice (some ⟨g1, 0, none⟩) (wl (xs.take k)).length cp ∧ g1 ≠ gx ∧ w.heap.size ≤ g1 ∧ gx < wr.heap.size ∧ Hid (wr.ownsRow w.heap.size 9 1 (.slice (some ⟨g1, 0, none⟩) (wl (xs.take k)).length cp) (wl (xs.take k)).length ((wl (xs.take k)).flatMap Tx.enc)) ∧ Hid (wr.ownsRow w.heap.size 9 1 (.slice (some ⟨gx, 0, none⟩) m cx) m (xs.flatMap Tx.enc)) ∧ Below w.heap.size w wr) (fun _ iv _ => m - (intOf iv).toNat)
 case atStart => exact ⟨0, _, 0, Nat.zero_le _, rfl, by rw [hl0], by omega, by omega, (HX.out.lt gx rfl).2, HO, HX, hb⟩
 case round =>
  clear HO HX hb hl0
  obtain ⟨k, g1, cp, hk, rfl, rfl, hne, hg1, hgw, HO, HX, hb⟩ := hrel
  have hlk : (wl (xs.take k)).length ≤ k := by
   have h1 := HWL.out (xs.take k)
   have h2 : (xs.take k).length ≤ k := by rw [List.length_take]; omega
   omega
  by_cases hkm : k < m
  ·obtain ⟨x, htk, hrx⟩ := HR.out k hkm
   have HTK := Lib.hid htk
   have cx0 := hrx wr HX.out
   have hlc := cell_kept HLC.out hb
   have HCX := Lib.hid hrx
   clear hrx htk
   have HY := Lib.hid (HWY.out (xs.take k) x)
   have HN := Lib.hid (HWN.out (xs.take k) x)
   rw [← HTK.out] at HY HN
   generalize wl (xs.take k) = ys at *
   have HC : Hid (∀ W, SliceAt W 1 Tx.enc a ws → Calls Tryz.prog 228 #[.slice a ws.length cap, .string x] W fun e w' => e = .returned (.bool (has x)) ∧ W = w') := Lib.hid (HHA.out x)
   cases hv : has x with
   | true =>
    have HE := Lib.hid (HY.out hv)
    rw [hv] at HC
    clear HY HN
    have HO7 : Hid (wr.ownsRow w.heap.size 9 1 (.slice (some ⟨g1, 0, none⟩) (wl (xs.take (k + 1))).length cp) (wl (xs.take (k + 1))).length ((wl (xs.take (k + 1))).flatMap Tx.enc)) := Lib.hid (by rw [HE.out]; exact HO.out)
    go_wp2_with fail
    go_quiet ((go_at_call 228; with_reducible exact quiet_of_eq (HC.out _ ((HM.out.kept hb).drew (Drew.times _ _)))))
    have hd : Below wr.heap.size wr (wr.drewN nq) := (Drew.times wr nq).below _
    have HO8 := Lib.hid (own_below HO7.out hd)
    have HX8 := Lib.hid (own_below HX.out hd)
    have hb8 := hb.trans (hd.mono hb.size)
    have hgw8 := Nat.lt_of_lt_of_le hgw hd.size
    clear hd HO7 HO HX hb cx0 hlc
    go_wp2
    go_roundw
    case rel => exact ⟨k + 1, g1, cp, by omega, by go_num, by rw [HE.out], hne, hg1, hgw8, HO8, HX8, hb8⟩
    case measure => simp [intOf]; omega
   | false =>
    have HE := Lib.hid (HN.out hv)
    rw [hv] at HC
    clear HY HN
    generalize hys : ys.length = l at *
    go_upto_region 6 with fail
    go_quiet ((go_at_call 228; with_reducible exact quiet_of_eq (HC.out _ ((HM.out.kept hb).drew (Drew.times _ _)))))
    have hd : Below wr.heap.size wr (wr.drewN nq) := (Drew.times wr nq).below _
    replace HO := Lib.hid (own_below HO.out hd)
    replace HX := Lib.hid (own_below HX.out hd)
    replace hb := hb.trans (hd.mono hb.size)
    replace hgw := Nat.lt_of_lt_of_le hgw hd.size
    clear hd cx0 hlc
    generalize wr.drewN nq = wa at *
    have cx1 := HCX.out wa HX.out
    have hx : Below wa.heap.size wa (wa.alloc (.cells #[.string x] 9)) := (Below.refl _ _).alloc (Nat.le_refl _) _
    have KN := Lib.hid (new_tx wa x 9)
    have hz3 := hb.size
    replace HO := Lib.hid (own_below HO.out hx)
    replace HX := Lib.hid (own_below HX.out hx)
    replace hb := hb.trans (hx.mono hb.size)
    replace hgw := Nat.lt_of_lt_of_le hgw hx.size
    clear hx
    go_wp2_with (at_builtin; go_must (refine wpList_append_lies _ rfl (.tmp 30) (.tmp 35) 42 rfl w.heap.size 9 i0 _ 1 16 Tryz.underlying42 hi0 hi1 hi2 hi3 rfl (by decide) _ l (ys.flatMap Tx.enc) (by rfl) HO.out ⟨wa.heap.size, 0, none⟩ 1 1 (Tx.enc x) (by rfl) rfl KN.out (tx_one x) (by decide) ?c1 ?c2 ?c3 _ rfl ?_))
    case c1 => unfold maxLen; omega
    case c2 => omega
    case c3 => (first | omega | (simp only [World.size_alloc]; omega))
    intro g7 cap7 w7 hown hgr hwh hlt7
    have hb7 := hb.grown hgr hb.size (fun q e => by have := (HO.out.lt q e).1; omega)
    have HLE : Hid ((wl (xs.take (k + 1))).length = l + 1) := Lib.hid (by rw [HE.out, List.length_append, hys]; rfl)
    have HO7 : Hid (w7.ownsRow w.heap.size 9 1 (.slice (some ⟨g7, 0, none⟩) (wl (xs.take (k + 1))).length cap7) (wl (xs.take (k + 1))).length ((wl (xs.take (k + 1))).flatMap Tx.enc)) := Lib.hid (by
     rw [HLE.out, HE.out, snoc_flat Tx.enc]; exact hown)
    have hg7 : g7 = g1 ∨ wa.heap.size < g7 := by
     rcases hwh with h | h
     ·simp [Value.ownBlock] at h; exact .inl (by omega)
     ·exact .inr (by rw [h]; (first | omega | (simp only [World.size_alloc]; omega)))
    have hgwa : gx < wa.heap.size + 1 := by (first | omega | (simp only [World.size_alloc] at hgw; omega))
    have hne7 : g7 ≠ gx := by omega
    have hge7 : w.heap.size ≤ g7 := by omega
    have HX7 := Lib.hid (HX.out.kept hgr (.inr (by simp [Value.ownBlock]; omega)))
    have hgw7 : gx < w7.heap.size := Nat.lt_of_lt_of_le (by (first | omega | (simp only [World.size_alloc]; omega))) hgr.size
    clear hown hgr hwh KN HO hb HX
    go_wp2
    go_roundw
    case rel => exact ⟨k + 1, g7, cap7, by omega, by go_num, by rw [HLE.out], hne7, hge7, hgw7, HO7, HX7, hb7⟩
    case measure => simp [intOf]; omega
  ·obtain rfl : k = m := by omega
   have hO := HO.out
   rw [List.take_of_length_le (by rw [HXL.out]; exact Nat.le_refl _)] at hO
   have HON := Lib.hid hO
   clear hO HO
   have HEQ : Hid (xs.take k = xs) := Lib.hid (List.take_of_length_le (by rw [HXL.out]; exact Nat.le_refl _))
   rw [HEQ.out]
   clear HEQ
   go_wp2
   go_ret
   exact ⟨g1, cp, rfl, HON.out, hb⟩
/-- what WrongWords returns -/
def WrongPost (b : Brd) (p : Ply) (ws : List ByteArray) (w : World) (e : Ending) (w' : World) : Prop :=
 if lexOk ws && b.okPlay p then ∃ g cap, e = .returned (.tuple #[.slice (some ⟨g, 0, none⟩) (wrongL ws (b.words p)).length cap, .int .i64 0]) ∧ w'.ownsRow w.heap.size 9 1 (.slice (some ⟨g, 0, none⟩) (wrongL ws (b.words p)).length cap) (wrongL ws (b.words p)).length ((wrongL ws (b.words p)).flatMap Tx.enc) ∧ Below w.heap.size w w'
 else e = .returned (.tuple #[.slice none 0 0, .int .i64 1]) ∧ Below w.heap.size w w'
theorem wrong_no {b : Brd} {p : Ply} {ws : List ByteArray} {w : World} (h : (lexOk ws && b.okPlay p) = false) (e : Ending) (w' : World) (k : e = .returned (.tuple #[.slice none 0 0, .int .i64 1]) ∧ Below w.heap.size w w') : WrongPost b p ws w e w' := by
 unfold WrongPost
 rw [h]
 exact k
theorem wrong_yes {b : Brd} {p : Ply} {ws : List ByteArray} {w : World} (h1 : lexOk ws = true) (h2 : b.okPlay p = true) (e : Ending) (w' : World) (k : ∃ g cap, e = .returned (.tuple #[.slice (some ⟨g, 0, none⟩) (wrongL ws (b.words p)).length cap, .int .i64 0]) ∧ w'.ownsRow w.heap.size 9 1 (.slice (some ⟨g, 0, none⟩) (wrongL ws (b.words p)).length cap) (wrongL ws (b.words p)).length ((wrongL ws (b.words p)).flatMap Tx.enc) ∧ Below w.heap.size w w') : WrongPost b p ws w e w' := by
 unfold WrongPost
 rw [h1, h2]
 exact k
end Go.Proofs.YtofcampipllegaaGreatDoor
