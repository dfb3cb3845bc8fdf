/- Contracts: the reference's words that a play forms and a lexicon does not have; its WrongW · Contracts: the reference's codes of plays: whether a down play is an across play too, the  · Contracts: the program's letters on a board, blank boards, whether a play touches; Touches · Contracts: the program's tiles that a play places, the codes of plays, LegalPlay. Go's tab -/
import Derived.Test.YtjdcdhhbgijaoaaGreatDoorLex
import Derived.Test.YtjdcdhhbgijaoaaGreatDoorPlaD
import Derived.Test.YtjdcdhhbgijaoaaGreatDoorPlbH
import Derived.Test.YtjdcdhhbgijaoaaGreatDoorLgE
import Derived.Test.YtjdcdhhbgijaoaaGreatDoorToA
import Derived.Test.YtjdcdhhbgijaoaaGreatDoorPlbC
import Derived.Test.YtjdcdhhbgijaoaaGreatDoorShq
import Derived.Test.YtjdcdhhbgijaoaaGreatDoorLgD
namespace Go.Proofs.YtjdcdhhbgijaoaaGreatDoor
open Go.ChangeShapes Go.WideShapes Go.ChangeAt Go.RowKit Go.Sort

/-- the words of a list that a lexicon does not have -/
def wrongL (ws xs : List ByteArray) : List ByteArray := xs.filter fun x => !hasW ws x
theorem wrongL_yes {ws xs : List ByteArray} {x : ByteArray} (h : hasW ws x = true) : wrongL ws (xs ++ [x]) = wrongL ws xs := by
  unfold wrongL
  rw [List.filter_append, List.filter_cons, h]
  simp
theorem wrongL_no {ws xs : List ByteArray} {x : ByteArray} (h : hasW ws x = false) : wrongL ws (xs ++ [x]) = wrongL ws xs ++ [x] := by
  unfold wrongL
  rw [List.filter_append, List.filter_cons, h]
  simp
theorem wrongL_len (ws xs : List ByteArray) : (wrongL ws xs).length ≤ xs.length := List.length_filter_le _ _
theorem take_one {xs : List ByteArray} {k : Nat} (h : k < xs.length) {x : ByteArray} (hx : xs[k] = x) : xs.take (k + 1) = xs.take k ++ [x] := by
  rw [List.take_succ_eq_append_getElem h, hx]
theorem words_len {b : Brd} {p : Ply} {n : Nat} (h : PGood b p n) : (b.words p).length ≤ 13 := by
  have h0 := congrArg List.length (words_form b p)
  rw [List.length_map] at h0
  have h1 := formB_len (b.view p) p.r p.c p.word (b.fresh p)
  have h2 : (b.fresh p).length ≤ p.word.size := freshL_len _ _ _ _
  have h3 := h.twelve
  omega
set_option maxRecDepth 100000 in
set_option maxHeartbeats 4000000 in
theorem l12Wrong_any (b : Brd) (p : Ply) (n : Nat) (ws : List ByteArray) (a : Option Addr) (cap : Nat) (g o lg lo : Nat) (w : World) (hg : BAt w g o b) (hlc : w.cell? ⟨lg, lo, none⟩ = some (.slice a ws.length cap)) (hm : SliceAt w 1 Tx.enc a ws) (hp : PGood b p n) (hi : lexOk ws = true) :
    Calls Tryz.prog 149 #[.pointer (some ⟨g, o, none⟩), .pointer (some ⟨lg, lo, none⟩), .agg #[.int .i64 p.row, .int .i64 p.col, .bool p.down, .string p.word]] w (TextsPost w (wrongL ws (b.words p))) := by
  obtain ⟨i0, hi0, hi1, hi2, hi3⟩ := info_parts infoTx
  have hb : Below w.heap.size w (w.alloc (.cells #[.int .i64 p.row, .int .i64 p.col, .bool p.down, .string p.word] 30)) := (Below.refl _ _).alloc (Nat.le_refl _) _
  have V0 := Lib.hid (VarAt.new w 30 [.int .i64 p.row, .int .i64 p.col, .bool p.down, .string p.word])
  have hlg := block_lt hlc
  have HG := Lib.hid (hg.kept hb)
  have HLC := Lib.hid hlc
  have HM := Lib.hid hm
  have hxl := words_len hp
  have HWO : Hid (∀ W, BAt W g o b → Calls Tryz.prog 124 #[.pointer (some ⟨g, o, none⟩), .agg #[.int .i64 p.row, .int .i64 p.col, .bool p.down, .string p.word]] W (TextsPost W (b.words p))) := Lib.hid (fun W h => l12Words_any b p n g o W h hp)
  have HHA : Hid (∀ x W, SliceAt W 1 Tx.enc a ws → Calls Tryz.prog 228 #[.slice a ws.length cap, .string x] W fun e w' => e = .returned (.bool (hasW ws x)) ∧ W = w') := Lib.hid (fun x W h => l05Has_any ws a cap x W h hi)
  have HWY := Lib.hid (fun xs x h => wrongL_yes (ws := ws) (xs := xs) (x := x) h)
  have HWN := Lib.hid (fun xs x h => wrongL_no (ws := ws) (xs := xs) (x := x) h)
  have HWL := Lib.hid (fun xs => wrongL_len ws xs)
  have HW0 : Hid (wrongL ws [] = []) := Lib.hid rfl
  obtain ⟨has, hhas⟩ : ∃ has : ByteArray → Bool, ∀ x, has x = hasW ws x := ⟨_, fun _ => rfl⟩
  simp only [← hhas] at HHA HWY HWN
  clear hg hlc hm hp hi hhas
  generalize b.words p = xs at *
  generalize wrongL ws = wl at *
  go_enter Tryz.func149, Tryz.ntmps149
  go_upto_region 1 with fail
  generalize w.alloc (.cells #[.int .i64 p.row, .int .i64 p.col, .bool p.down, .string p.word] 30) = w1 at *
  have c0 := V0.out.cell (i := 0) rfl
  have c1 := V0.out.cell (i := 1) rfl
  have c2 := V0.out.cell (i := 2) rfl
  have c3 := V0.out.cell (i := 3) rfl
  go_wp2_with fail
  refine (HWO.out _ HG.out).mono ?_
  rintro e w5 ⟨gx, cx, rfl, hx0, hd⟩
  have hz := hb.size
  have hgx := (hx0.lt gx rfl).1
  have HX := Lib.hid (own_mono hx0 (show w.heap.size ≤ _ by omega))
  clear hx0 c0 c1 c2 c3 HG HWO V0
  replace hb := hb.trans (hd.mono hb.size)
  clear hd
  have HR : Hid (∀ k, k < xs.length → ∃ x : ByteArray, xs.take (k + 1) = xs.take k ++ [x] ∧ ∀ W : World, W.ownsRow w.heap.size 9 1 (.slice (some ⟨gx, 0, none⟩) xs.length cx) xs.length (xs.flatMap Tx.enc) → W.cell? ⟨gx, k, none⟩ = some (.string x)) := Lib.hid (fun k h => ⟨xs[k], take_one h rfl, fun W hx => row_txt hx h⟩)
  generalize hxsl : xs.length = m at *
  have HXL := Lib.hid hxsl
  clear hxsl
  have HO : Hid ((w5.alloc (.cells #[] 9)).ownsRow w.heap.size 9 1 (.slice (some ⟨w5.heap.size, 0, none⟩) (wl (xs.take 0)).length 0) (wl (xs.take 0)).length ((wl (xs.take 0)).flatMap Tx.enc)) := Lib.hid (by
    rw [List.take_zero, HW0.out]
    exact World.ownsRow_made (base := w.heap.size) (e := 9) (size := 1) w5 #[] 0 hb.size (by unfold maxLen; omega) rfl)
  have hl0 : (wl (xs.take 0)).length = 0 := by rw [List.take_zero, HW0.out]; rfl
  have hgx5 := (HX.out.lt gx rfl).2
  have hd : Below w5.heap.size w5 (w5.alloc (.cells #[] 9)) := (Below.refl _ _).alloc (Nat.le_refl _) _
  replace hb := hb.trans (hd.mono hb.size)
  replace HX := Lib.hid (own_below HX.out hd)
  clear hd
  go_wp2_with fail
  go_loopw [8, 9] (fun ov iv wr => ∃ (k g1 cp : Nat), k ≤ m ∧ iv = .int .i64 k ∧ ov = .slice (some ⟨g1, 0, none⟩) (wl (xs.take k)).length cp ∧ g1 ≠ gx ∧ w.heap.size ≤ g1 ∧ gx < wr.heap.size ∧ Hid (wr.ownsRow w.heap.size 9 1 (.slice (some ⟨g1, 0, none⟩) (wl (xs.take k)).length cp) (wl (xs.take k)).length ((wl (xs.take k)).flatMap Tx.enc)) ∧ Hid (wr.ownsRow w.heap.size 9 1 (.slice (some ⟨gx, 0, none⟩) m cx) m (xs.flatMap Tx.enc)) ∧ Below w.heap.size w wr) (fun _ iv _ => m - (intOf iv).toNat)
  case atStart => exact ⟨0, _, 0, Nat.zero_le _, rfl, by rw [hl0], by omega, by omega, (HX.out.lt gx rfl).2, HO, HX, hb⟩
  case round =>
    clear HO HX hb hl0
    obtain ⟨k, g1, cp, hk, rfl, rfl, hne, hg1, hgw, HO, HX, hb⟩ := hrel
    have hlk : (wl (xs.take k)).length ≤ k := by
      have h1 := HWL.out (xs.take k)
      have h2 : (xs.take k).length ≤ k := by rw [List.length_take]; omega
      omega
    by_cases hkm : k < m
    · obtain ⟨x, htk, hrx⟩ := HR.out k hkm
      have HTK := Lib.hid htk
      have cx0 := hrx wr HX.out
      have hlc := cell_kept HLC.out hb
      have HCX := Lib.hid hrx
      clear hrx htk
      have HY := Lib.hid (HWY.out (xs.take k) x)
      have HN := Lib.hid (HWN.out (xs.take k) x)
      rw [← HTK.out] at HY HN
      generalize wl (xs.take k) = ys at *
      have HC : Hid (∀ W, SliceAt W 1 Tx.enc a ws → Calls Tryz.prog 228 #[.slice a ws.length cap, .string x] W fun e w' => e = .returned (.bool (has x)) ∧ W = w') := Lib.hid (HHA.out x)
      cases hv : has x with
      | true =>
        have HE := Lib.hid (HY.out hv)
        rw [hv] at HC
        clear HY HN
        have HO7 : Hid (wr.ownsRow w.heap.size 9 1 (.slice (some ⟨g1, 0, none⟩) (wl (xs.take (k + 1))).length cp) (wl (xs.take (k + 1))).length ((wl (xs.take (k + 1))).flatMap Tx.enc)) := Lib.hid (by rw [HE.out]; exact HO.out)
        go_wp2_with fail
        go_quiet ((go_at_call 228; with_reducible exact quiet_of_eq (HC.out _ ((HM.out.kept hb).drew (Drew.times _ _)))))
        have hd : Below wr.heap.size wr (wr.drewN nq) := (Drew.times wr nq).below _
        have HO8 := Lib.hid (own_below HO7.out hd)
        have HX8 := Lib.hid (own_below HX.out hd)
        have hb8 := hb.trans (hd.mono hb.size)
        have hgw8 := Nat.lt_of_lt_of_le hgw hd.size
        clear hd HO7 HO HX hb cx0 hlc
        go_wp2
        go_roundw
        case rel => exact ⟨k + 1, g1, cp, by omega, by go_num, by rw [HE.out], hne, hg1, hgw8, HO8, HX8, hb8⟩
        case measure => simp [intOf]; omega
      | false =>
        have HE := Lib.hid (HN.out hv)
        rw [hv] at HC
        clear HY HN
        generalize hys : ys.length = l at *
        go_upto_region 6 with fail
        go_quiet ((go_at_call 228; with_reducible exact quiet_of_eq (HC.out _ ((HM.out.kept hb).drew (Drew.times _ _)))))
        have hd : Below wr.heap.size wr (wr.drewN nq) := (Drew.times wr nq).below _
        replace HO := Lib.hid (own_below HO.out hd)
        replace HX := Lib.hid (own_below HX.out hd)
        replace hb := hb.trans (hd.mono hb.size)
        replace hgw := Nat.lt_of_lt_of_le hgw hd.size
        clear hd cx0 hlc
        generalize wr.drewN nq = wa at *
        have cx1 := HCX.out wa HX.out
        have hx : Below wa.heap.size wa (wa.alloc (.cells #[.string x] 9)) := (Below.refl _ _).alloc (Nat.le_refl _) _
        have KN := Lib.hid (new_tx wa x 9)
        have hz3 := hb.size
        replace HO := Lib.hid (own_below HO.out hx)
        replace HX := Lib.hid (own_below HX.out hx)
        replace hb := hb.trans (hx.mono hb.size)
        replace hgw := Nat.lt_of_lt_of_le hgw hx.size
        clear hx
        go_wp2_with (at_builtin; go_must (refine wpList_append_lies _ rfl (.tmp 30) (.tmp 35) 26 rfl w.heap.size 9 i0 _ 1 16 Tryz.underlying26 hi0 hi1 hi2 hi3 rfl (by decide) _ l (ys.flatMap Tx.enc) (by rfl) HO.out ⟨wa.heap.size, 0, none⟩ 1 1 (Tx.enc x) (by rfl) rfl KN.out (tx_one x) (by decide) ?c1 ?c2 ?c3 _ rfl ?_))
        case c1 => unfold maxLen; omega
        case c2 => omega
        case c3 => (first | omega | (simp only [World.size_alloc]; omega))
        intro g7 cap7 w7 hown hgr hwh hlt7
        have hb7 := hb.grown hgr hb.size (fun q e => by have := (HO.out.lt q e).1; omega)
        have HLE : Hid ((wl (xs.take (k + 1))).length = l + 1) := Lib.hid (by rw [HE.out, List.length_append, hys]; rfl)
        have HO7 : Hid (w7.ownsRow w.heap.size 9 1 (.slice (some ⟨g7, 0, none⟩) (wl (xs.take (k + 1))).length cap7) (wl (xs.take (k + 1))).length ((wl (xs.take (k + 1))).flatMap Tx.enc)) := Lib.hid (by
          rw [HLE.out, HE.out, snoc_flat Tx.enc]; exact hown)
        have hg7 : g7 = g1 ∨ wa.heap.size < g7 := by
          rcases hwh with h | h
          · simp [Value.ownBlock] at h; exact .inl (by omega)
          · exact .inr (by rw [h]; (first | omega | (simp only [World.size_alloc]; omega)))
        have hgwa : gx < wa.heap.size + 1 := by (first | omega | (simp only [World.size_alloc] at hgw; omega))
        have hne7 : g7 ≠ gx := by omega
        have hge7 : w.heap.size ≤ g7 := by omega
        have HX7 := Lib.hid (HX.out.kept hgr (.inr (by simp [Value.ownBlock]; omega)))
        have hgw7 : gx < w7.heap.size := Nat.lt_of_lt_of_le (by (first | omega | (simp only [World.size_alloc]; omega))) hgr.size
        clear hown hgr hwh KN HO hb HX
        go_wp2
        go_roundw
        case rel => exact ⟨k + 1, g7, cap7, by omega, by go_num, by rw [HLE.out], hne7, hge7, hgw7, HO7, HX7, hb7⟩
        case measure => simp [intOf]; omega
    · obtain rfl : k = m := by omega
      have hO := HO.out
      rw [List.take_of_length_le (by rw [HXL.out]; exact Nat.le_refl _)] at hO
      have HON := Lib.hid hO
      clear hO HO
      have HEQ : Hid (xs.take k = xs) := Lib.hid (List.take_of_length_le (by rw [HXL.out]; exact Nat.le_refl _))
      rw [HEQ.out]
      clear HEQ
      go_wp2
      go_ret
      exact ⟨g1, cp, rfl, HON.out, hb⟩
end Go.Proofs.YtjdcdhhbgijaoaaGreatDoor

namespace Go.Proofs.YtjdcdhhbgijaoaaGreatDoor
open Go.ChangeShapes Go.WideShapes Go.ChangeAt Go.RowKit Go.Sort

theorem first_ex (f : Nat → Bool) : ∀ n : Nat, ∃ k, k ≤ n ∧ (∀ t, t < k → f t = true) ∧ (k < n → f k = false)
  | 0 => ⟨0, Nat.le_refl _, fun t h => absurd h (Nat.not_lt_zero _), fun h => absurd h (Nat.lt_irrefl _)⟩
  | n + 1 => by
    obtain ⟨k, h1, h2, h3⟩ := first_ex f n
    by_cases hk : k < n
    · exact ⟨k, by omega, h2, fun _ => h3 hk⟩
    · cases hv : f n with
      | true => exact ⟨n + 1, Nat.le_refl _, fun t ht => by
          by_cases e : t = n
          · rw [e, hv]
          · exact h2 t (by omega), fun h => absurd h (by omega)⟩
      | false => exact ⟨n, by omega, fun t ht => h2 t (by omega), fun _ => hv⟩
theorem find_parts {ws : List ByteArray} {x : ByteArray} (h : lexOk ws = true) : findW ws x ≤ ws.length ∧ (∀ t, t < findW ws x → lessW ws x t = true) ∧ ∀ t, findW ws x ≤ t → t < ws.length → lessW ws x t = false := by
  have hi := inc_of_lex h
  obtain ⟨k, h1, h2, h3⟩ := first_ex (lessW ws x) ws.length
  have e := firstW_eq hi h1 h2 h3
  rw [e]
  refine ⟨h1, h2, fun t ht hn => ?_⟩
  by_cases e2 : t = k
  · rw [e2]; exact h3 (by omega)
  · obtain ⟨d, rfl⟩ : ∃ d, t = k + 1 + d := ⟨t - k - 1, by omega⟩
    have h4 := inc_mono hi (x := x) d k hn
    have h5 := h3 (by omega)
    unfold lessW at h5 ⊢
    rw [bytesLess_eq] at h5 ⊢
    rw [decide_eq_false_iff_not] at h5 ⊢
    exact fun h6 => h5 (List.lt_trans h4 h6)
theorem cmpIsNaN_any (x : ByteArray) (w : World) : Calls Tryz.prog 215 #[.string x] w fun e w' => e = .returned (.bool false) ∧ w = w' := by
  go_enter Tryz.func215, Tryz.ntmps215
  go_wp2
  go_ret
  exact ⟨by simp, rfl⟩
theorem slIsNaN_any (x : ByteArray) (w : World) : Calls Tryz.prog 272 #[.string x] w fun e w' => e = .returned (.bool false) ∧ w = w' := by
  go_enter Tryz.func272, Tryz.ntmps272
  go_wp2
  go_ret
  exact ⟨by simp, rfl⟩
theorem cmpLess_any (x y : ByteArray) (w : World) : Calls Tryz.prog 271 #[.string x, .string y] w fun e w' => e = .returned (.bool (Op.bytesLess x.toList y.toList)) ∧ w = w' := by
  go_enter Tryz.func271, Tryz.ntmps271
  go_wp2_with fail
  refine (cmpIsNaN_any x _).mono ?_
  rintro e w' ⟨rfl, rfl⟩
  go_wp2
  go_ret
  exact ⟨rfl, rfl⟩
set_option maxRecDepth 100000 in
set_option maxHeartbeats 4000000 in
theorem binarySearch_any (ws : List ByteArray) (a : Option Addr) (cap : Nat) (x : ByteArray) (w : World) (hm : SliceAt w 1 Tx.enc a ws) (hi : lexOk ws = true) :
    Calls Tryz.prog 230 #[.slice a ws.length cap, .string x] w fun e w' => e = .returned (.tuple #[.int .i64 (findW ws x : Nat), .bool (hasW ws x)]) ∧ Drew w w' := by
  have hl := len_of_lex hi
  obtain ⟨k1, k2, k3⟩ := find_parts (x := x) hi
  obtain ⟨K, hK⟩ : ∃ K, findW ws x = K := ⟨_, rfl⟩
  have HH := Lib.hid (findW_le hK)
  rw [hK] at k1 k2 k3 ⊢
  have HY := Lib.hid k2
  have HN := Lib.hid k3
  have HM := Lib.hid hm
  clear hm hi k2 k3 hK
  go_enter Tryz.func230, Tryz.ntmps230
  go_wp2_with fail
  go_loopw [7, 8] (fun lv hv wr => ∃ lo hi : Nat, lv = .int .i64 lo ∧ hv = .int .i64 hi ∧ lo ≤ K ∧ K ≤ hi ∧ hi ≤ ws.length ∧ Drew w wr) (fun lv hv _ => (intOf hv).toNat - (intOf lv).toNat)
  case atStart => exact ⟨0, ws.length, rfl, rfl, Nat.zero_le _, k1, Nat.le_refl _, Drew.refl _⟩
  case round =>
    obtain ⟨lo, hi, rfl, rfl, h1, h2, h3, hd⟩ := hrel
    by_cases hlt : lo < hi
    · obtain ⟨b, o, rfl, hc⟩ := (HM.out.drew hd).open (k := (lo + hi) / 2) (by omega)
      have c0 := words_cell hc (k := (lo + hi) / 2) (by omega)
      rw [getD_any (by omega) _ x] at c0
      have HLW : Hid (lessW ws x ((lo + hi) / 2) = Op.bytesLess (ws.getD ((lo + hi) / 2) x).toList x.toList) := Lib.hid rfl
      have hmm : ((lo : Int) + (hi : Int)) / 2 = (((lo + hi) / 2 : Nat) : Int) := by omega
      have HM2 := Lib.hid hmm
      clear hc hmm
      generalize ws.getD ((lo + hi) / 2) x = y at *
      cases hv : Op.bytesLess y.toList x.toList with
      | true =>
        have hK : (lo + hi) / 2 < K := by
          by_cases h : (lo + hi) / 2 < K
          · exact h
          · have e1 := HN.out ((lo + hi) / 2) (by omega) (by omega)
            rw [HLW.out, hv] at e1
            cases e1
        go_wp2_with fail
        refine (cmpLess_any y x _).mono ?_
        rintro e w' ⟨rfl, rfl⟩
        rw [hv]
        go_wp2
        go_roundw
        case rel => exact ⟨(lo + hi) / 2 + 1, hi, congrArg (Value.int IntKind.i64) (by omega), rfl, by omega, h2, h3, hd⟩
        case measure => (show (_ : Nat) < _); simp only [intOf]; omega
      | false =>
        have hK : K ≤ (lo + hi) / 2 := by
          by_cases h : K ≤ (lo + hi) / 2
          · exact h
          · have e1 := HY.out ((lo + hi) / 2) (by omega)
            rw [HLW.out, hv] at e1
            cases e1
        go_wp2_with fail
        refine (cmpLess_any y x _).mono ?_
        rintro e w' ⟨rfl, rfl⟩
        rw [hv]
        go_wp2
        go_roundw
        case rel => exact ⟨lo, (lo + hi) / 2, rfl, congrArg (Value.int IntKind.i64) (by omega), h1, hK, by omega, hd⟩
        case measure => (show (_ : Nat) < _); simp only [intOf]; omega
    · obtain rfl : lo = K := by omega
      obtain rfl : hi = lo := by omega
      by_cases hn : hi < ws.length
      · obtain ⟨b, o, rfl, hc⟩ := (HM.out.drew hd).open hn
        have c0 := words_cell hc hn
        rw [getD_any hn _ x] at c0
        have HE : Hid (hasW ws x = ((ws.getD hi x).toList == x.toList)) := Lib.hid (by rw [HH.out, str_dec, decide_eq_decide]; exact ⟨fun h => h.2, fun h => ⟨hn, h⟩⟩)
        clear hc HH HY HN
        generalize ws.getD hi x = y at *
        cases hv : (y.toList == x.toList) with
        | true =>
          rw [hv] at HE
          go_wp2
          go_ret2
          exact ⟨by rw [HE.out]; rfl, hd⟩
        | false =>
          rw [hv] at HE
          go_wp2_with fail
          refine (slIsNaN_any y _).mono ?_
          rintro e w' ⟨rfl, rfl⟩
          go_wp2
          go_ret2
          exact ⟨by rw [HE.out]; rfl, hd⟩
      · have HE : Hid (hasW ws x = false) := Lib.hid (by rw [HH.out]; exact decide_eq_false fun h => hn h.1)
        go_wp2
        go_ret2
        exact ⟨by rw [HE.out]; rfl, hd⟩
end Go.Proofs.YtjdcdhhbgijaoaaGreatDoor

namespace Go.Proofs.YtjdcdhhbgijaoaaGreatDoor
open Go.ChangeShapes Go.WideShapes Go.ChangeAt Go.RowKit Go.Sort

set_option maxHeartbeats 1000000 in
theorem has_any (ws : List ByteArray) (a : Option Addr) (cap : Nat) (x : ByteArray) (w : World) (hm : SliceAt w 1 Tx.enc a ws) (hi : lexOk ws = true) :
    Calls Tryz.prog 156 #[.agg #[.slice a ws.length cap], .string x] w fun e w' => e = .returned (.bool (hasW ws x)) ∧ Below w.heap.size w w' := by
  have hb : Below w.heap.size w (w.alloc (.cells #[.slice a ws.length cap] 28)) := (Below.refl _ _).alloc (Nat.le_refl _) _
  have VL := Lib.hid (VarAt.new w 28 [.slice a ws.length cap])
  have HM := Lib.hid (hm.kept hb)
  clear hm
  go_enter Tryz.func156, Tryz.ntmps156
  go_upto_region 1 with fail
  generalize w.alloc (.cells #[.slice a ws.length cap] 28) = w1 at *
  have l0 := VL.out.cell (i := 0) rfl
  go_wp2_with fail
  refine (binarySearch_any ws a cap x _ HM.out hi).mono ?_
  rintro e w3 ⟨rfl, hdq⟩
  have hd := hdq.bels
  replace hb := hb.trans (hd.mono hb.size)
  clear hd hdq l0
  go_wp2
  go_ret
  exact ⟨rfl, hb⟩
set_option maxHeartbeats 1000000 in
theorem wrongFn_any (ws : List ByteArray) (a : Option Addr) (cap lb : Nat) (x : ByteArray) (w : World) (hc : w.cell? ⟨lb, 0, none⟩ = some (.slice a ws.length cap)) (hm : SliceAt w 1 Tx.enc a ws) (hi : lexOk ws = true) :
    Calls Tryz.prog 227 #[.string x, .pointer (some ⟨lb, 0, none⟩)] w fun e w' => e = .returned (.bool (!hasW ws x)) ∧ Below w.heap.size w w' := by
  have HM := Lib.hid hm
  clear hm
  go_enter Tryz.func227, Tryz.ntmps227
  go_wp2_with fail
  refine (has_any ws a cap x _ HM.out hi).mono ?_
  rintro e w3 ⟨rfl, hd⟩
  go_wp2
  go_ret
  exact ⟨rfl, hd⟩
set_option maxRecDepth 100000 in
set_option maxHeartbeats 4000000 in
theorem selected_any (ws xs : List ByteArray) (a : Option Addr) (cap lb gx cx : Nat) (w : World) (hlc : w.cell? ⟨lb, 0, none⟩ = some (.slice a ws.length cap)) (hm : SliceAt w 1 Tx.enc a ws) (hi : lexOk ws = true) (hx : SliceAt w 1 Tx.enc (some ⟨gx, 0, none⟩) xs) (hxl : xs.length ≤ 13) :
    Calls Tryz.prog 226 #[.slice (some ⟨gx, 0, none⟩) xs.length cx, .func (.func 227) #[] #[.pointer (some ⟨lb, 0, none⟩)]] w (TextsPost w (wrongL ws xs)) := by
  obtain ⟨i0, hi0, hi1, hi2, hi3⟩ := info_parts infoTx
  have hd : Below w.heap.size w (w.alloc (.cells #[] 9)) := (Below.refl _ _).alloc (Nat.le_refl _) _
  have hb := hd
  have HLC := Lib.hid hlc
  have HM := Lib.hid hm
  have HX := Lib.hid hx
  have HHA : Hid (∀ x W, W.cell? ⟨lb, 0, none⟩ = some (.slice a ws.length cap) → SliceAt W 1 Tx.enc a ws → Calls Tryz.prog 227 #[.string x, .pointer (some ⟨lb, 0, none⟩)] W fun e w' => e = .returned (.bool (!hasW ws x)) ∧ Below W.heap.size W w') := Lib.hid (fun x W h1 h2 => wrongFn_any ws a cap lb x W h1 h2 hi)
  have HWY := Lib.hid (fun xs x h => wrongL_yes (ws := ws) (xs := xs) (x := x) h)
  have HWN := Lib.hid (fun xs x h => wrongL_no (ws := ws) (xs := xs) (x := x) h)
  have HWL := Lib.hid (fun xs => wrongL_len ws xs)
  have HW0 : Hid (wrongL ws [] = []) := Lib.hid rfl
  obtain ⟨has, hhas⟩ : ∃ has : ByteArray → Bool, ∀ x, has x = hasW ws x := ⟨_, fun _ => rfl⟩
  simp only [← hhas] at HHA HWY HWN
  clear hlc hm hx hi hhas
  generalize wrongL ws = wl at *
  have HR : Hid (∀ k, k < xs.length → ∃ x : ByteArray, xs.take (k + 1) = xs.take k ++ [x] ∧ ∀ W : World, SliceAt W 1 Tx.enc (some ⟨gx, 0, none⟩) xs → W.cell? ⟨gx, k, none⟩ = some (.string x)) := Lib.hid (fun k h => ⟨xs[k], take_one h rfl, fun W hx => by
    obtain ⟨bb, oo, he, hc⟩ := hx.open h
    obtain ⟨rfl, rfl⟩ : gx = bb ∧ 0 = oo := by simpa using he
    have := words_cell hc h
    rw [Nat.zero_add, getD_at h] at this
    exact this⟩)
  generalize hxsl : xs.length = m at *
  have HXL := Lib.hid hxsl
  clear hxsl
  have HO : Hid ((w.alloc (.cells #[] 9)).ownsRow w.heap.size 9 1 (.slice (some ⟨w.heap.size, 0, none⟩) (wl (xs.take 0)).length 0) (wl (xs.take 0)).length ((wl (xs.take 0)).flatMap Tx.enc)) := Lib.hid (by
    rw [List.take_zero, HW0.out]
    exact World.ownsRow_made (base := w.heap.size) (e := 9) (size := 1) w #[] 0 (Nat.le_refl _) (by unfold maxLen; omega) rfl)
  have hl0 : (wl (xs.take 0)).length = 0 := by rw [List.take_zero, HW0.out]; rfl
  clear hd
  go_enter Tryz.func226, Tryz.ntmps226
  go_wp2_with fail
  go_loopw [5, 11] (fun ov iv wr => ∃ (k g1 cp : Nat), k ≤ m ∧ iv = .int .i64 k ∧ ov = .slice (some ⟨g1, 0, none⟩) (wl (xs.take k)).length cp ∧ Hid (wr.ownsRow w.heap.size 9 1 (.slice (some ⟨g1, 0, none⟩) (wl (xs.take k)).length cp) (wl (xs.take k)).length ((wl (xs.take k)).flatMap Tx.enc)) ∧ Below w.heap.size w wr) (fun _ iv _ => m - (intOf iv).toNat)
  case atStart => exact ⟨0, _, 0, Nat.zero_le _, rfl, by rw [hl0], HO, hb⟩
  case round =>
    clear HO hb hl0
    obtain ⟨k, g1, cp, hk, rfl, rfl, HO, hb⟩ := hrel
    have hlk : (wl (xs.take k)).length ≤ k := by
      have h1 := HWL.out (xs.take k)
      have h2 : (xs.take k).length ≤ k := by rw [List.length_take]; omega
      omega
    by_cases hkm : k < m
    · obtain ⟨x, htk, hrx⟩ := HR.out k hkm
      have HTK := Lib.hid htk
      have cx0 := hrx wr (HX.out.kept hb)
      clear hrx htk
      have HY := Lib.hid (HWY.out (xs.take k) x)
      have HN := Lib.hid (HWN.out (xs.take k) x)
      rw [← HTK.out] at HY HN
      generalize wl (xs.take k) = ys at *
      have HC : Hid (∀ W, W.cell? ⟨lb, 0, none⟩ = some (.slice a ws.length cap) → SliceAt W 1 Tx.enc a ws → Calls Tryz.prog 227 #[.string x, .pointer (some ⟨lb, 0, none⟩)] W fun e w' => e = .returned (.bool (!has x)) ∧ Below W.heap.size W w') := Lib.hid (HHA.out x)
      cases hv : has x with
      | true =>
        have HE := Lib.hid (HY.out hv)
        rw [hv] at HC
        clear HY HN
        have HO7 : Hid (wr.ownsRow w.heap.size 9 1 (.slice (some ⟨g1, 0, none⟩) (wl (xs.take (k + 1))).length cp) (wl (xs.take (k + 1))).length ((wl (xs.take (k + 1))).flatMap Tx.enc)) := Lib.hid (by rw [HE.out]; exact HO.out)
        go_wp2_with fail
        refine (HC.out _ (cell_kept HLC.out hb) (HM.out.kept hb)).mono ?_
        rintro e wa ⟨rfl, hd⟩
        have HO8 := Lib.hid (own_below HO7.out hd)
        have hb8 := hb.trans (hd.mono hb.size)
        clear hd HO7 HO hb cx0
        go_wp2
        go_roundw
        case rel => exact ⟨k + 1, g1, cp, by omega, by go_num, by rw [HE.out], HO8, hb8⟩
        case measure => simp [intOf]; omega
      | false =>
        have HE := Lib.hid (HN.out hv)
        rw [hv] at HC
        clear HY HN
        generalize hys : ys.length = l at *
        go_wp2_with fail
        refine (HC.out _ (cell_kept HLC.out hb) (HM.out.kept hb)).mono ?_
        rintro e wa ⟨rfl, hd⟩
        replace HO := Lib.hid (own_below HO.out hd)
        replace hb := hb.trans (hd.mono hb.size)
        clear hd cx0
        have hx : Below wa.heap.size wa (wa.alloc (.cells #[.string x] 9)) := (Below.refl _ _).alloc (Nat.le_refl _) _
        have KN := Lib.hid (new_tx wa x 9)
        have hz3 := hb.size
        replace HO := Lib.hid (own_below HO.out hx)
        replace hb := hb.trans (hx.mono hb.size)
        clear hx
        go_wp2_with (at_builtin; go_must (refine wpList_append_lies _ rfl (.tmp 18) (.tmp 20) 26 rfl w.heap.size 9 i0 _ 1 16 Tryz.underlying26 hi0 hi1 hi2 hi3 rfl (by decide) _ l (ys.flatMap Tx.enc) (by rfl) HO.out ⟨wa.heap.size, 0, none⟩ 1 1 (Tx.enc x) (by rfl) rfl KN.out (tx_one x) (by decide) ?c1 ?c2 ?c3 _ rfl ?_))
        case c1 => unfold maxLen; omega
        case c2 => omega
        case c3 => (first | omega | (simp only [World.size_alloc]; omega))
        intro g7 cap7 w7 hown hgr hwh hlt7
        have hb7 := hb.grown hgr hb.size (fun q e => by have := (HO.out.lt q e).1; omega)
        have HLE : Hid ((wl (xs.take (k + 1))).length = l + 1) := Lib.hid (by rw [HE.out, List.length_append, hys]; rfl)
        have HO7 : Hid (w7.ownsRow w.heap.size 9 1 (.slice (some ⟨g7, 0, none⟩) (wl (xs.take (k + 1))).length cap7) (wl (xs.take (k + 1))).length ((wl (xs.take (k + 1))).flatMap Tx.enc)) := Lib.hid (by
          rw [HLE.out, HE.out, snoc_flat Tx.enc]; exact hown)
        clear hown hgr hwh KN HO hb
        go_wp2
        go_roundw
        case rel => exact ⟨k + 1, g7, cap7, by omega, by go_num, by rw [HLE.out], HO7, hb7⟩
        case measure => simp [intOf]; omega
    · obtain rfl : k = m := by omega
      have hO := HO.out
      rw [List.take_of_length_le (by rw [HXL.out]; exact Nat.le_refl _)] at hO
      have HON := Lib.hid hO
      clear hO HO
      have HEQ : Hid (xs.take k = xs) := Lib.hid (List.take_of_length_le (by rw [HXL.out]; exact Nat.le_refl _))
      rw [HEQ.out]
      clear HEQ
      go_wp2
      go_ret
      exact ⟨g1, cp, rfl, HON.out, hb⟩
set_option maxRecDepth 100000 in
set_option maxHeartbeats 4000000 in
theorem wrongWords_any (b : Brd) (p : Ply) (n : Nat) (ws : List ByteArray) (a : Option Addr) (cap : Nat) (w : World) (hm : SliceAt w 1 Tx.enc a ws) (hi : lexOk ws = true) (hp : PGood b p n) :
    Calls Tryz.prog 148 #[.agg #[.int .i64 b.size, .string b.premium, .string b.cells], .agg #[.slice a ws.length cap], .agg #[.int .i64 p.row, .int .i64 p.col, .bool p.down, .string p.word]] w (TextsPost w (wrongL ws (b.words p))) := by
  obtain ⟨w2, hw2⟩ : ∃ w2, w2 = ((w.alloc (.cells #[.int .i64 b.size, .string b.premium, .string b.cells] 25)).alloc (.cells #[.slice a ws.length cap] 28)).alloc (.cells #[.int .i64 p.row, .int .i64 p.col, .bool p.down, .string p.word] 30) := ⟨_, rfl⟩
  have hb : Below w.heap.size w w2 := by rw [hw2]; exact (((Below.refl _ _).alloc (Nat.le_refl _) _).alloc (by simp) _).alloc (by simp; omega) _
  have hz2 : w.heap.size + 2 < w2.heap.size := by rw [hw2]; simp
  have VB : Hid (VarAt w2 w.heap.size 25 [.int .i64 b.size, .string b.premium, .string b.cells]) := by
    rw [hw2]
    exact Lib.hid (((VarAt.new w 25 [.int .i64 b.size, .string b.premium, .string b.cells]).kept ((Below.refl _ _).alloc (Nat.le_refl _) _)).kept ((Below.refl _ _).alloc (Nat.le_refl _) _))
  have VL : Hid (VarAt w2 (w.heap.size + 1) 28 [.slice a ws.length cap]) := by
    rw [hw2]
    have := (VarAt.new (w.alloc (.cells #[.int .i64 b.size, .string b.premium, .string b.cells] 25)) 28 [.slice a ws.length cap]).kept ((Below.refl _ _).alloc (Nat.le_refl _) (.cells #[.int .i64 p.row, .int .i64 p.col, .bool p.down, .string p.word] 30))
    simp only [World.size_alloc] at this
    exact Lib.hid this
  have VP : Hid (VarAt w2 (w.heap.size + 2) 30 [.int .i64 p.row, .int .i64 p.col, .bool p.down, .string p.word]) := by
    rw [hw2]
    have := VarAt.new ((w.alloc (.cells #[.int .i64 b.size, .string b.premium, .string b.cells] 25)).alloc (.cells #[.slice a ws.length cap] 28)) 30 [.int .i64 p.row, .int .i64 p.col, .bool p.down, .string p.word]
    simp only [World.size_alloc] at this
    exact Lib.hid this
  have HM := Lib.hid (hm.kept hb)
  have HW2 := Lib.hid hw2
  have hxl := words_len hp
  have HWF : Hid (∀ W, Calls Tryz.prog 83 #[.agg #[.int .i64 b.size, .string b.premium, .string b.cells], .agg #[.int .i64 p.row, .int .i64 p.col, .bool p.down, .string p.word]] W (TextsPost W (b.words p))) := Lib.hid (fun W => wordsFormed_any b p n W hp)
  have HSE : Hid (∀ gx cx W, W.cell? ⟨w.heap.size + 1, 0, none⟩ = some (.slice a ws.length cap) → SliceAt W 1 Tx.enc a ws → SliceAt W 1 Tx.enc (some ⟨gx, 0, none⟩) (b.words p) → Calls Tryz.prog 226 #[.slice (some ⟨gx, 0, none⟩) (b.words p).length cx, .func (.func 227) #[] #[.pointer (some ⟨w.heap.size + 1, 0, none⟩)]] W (TextsPost W (wrongL ws (b.words p)))) := Lib.hid (fun gx cx W h1 h2 h3 => selected_any ws (b.words p) a cap _ gx cx W h1 h2 hi h3 hxl)
  clear hw2 hm hi hp hxl
  generalize wrongL ws (b.words p) = ys at *
  generalize b.words p = xs at *
  go_enter Tryz.func148, Tryz.ntmps148
  go_upto_region 1 with fail
  rw [← HW2.out]
  clear HW2
  have b0 := VB.out.cell (i := 0) rfl
  have b1 := VB.out.cell (i := 1) rfl
  have b2 := VB.out.cell (i := 2) rfl
  have p0 := VP.out.cell (i := 0) rfl
  have p1 := VP.out.cell (i := 1) rfl
  have p2 := VP.out.cell (i := 2) rfl
  have p3 := VP.out.cell (i := 3) rfl
  go_wp2_with fail
  refine (HWF.out _).mono ?_
  rintro e w3 ⟨gx, cx, rfl, hx, hd⟩
  have HX := Lib.hid (own_slice Tx.enc_len hx rfl)
  clear hx b0 b1 b2 p0 p1 p2 p3 VB VP
  replace hb := hb.trans (hd.mono hb.size)
  replace VL := Lib.hid (VL.out.kept hd)
  replace HM := Lib.hid (HM.out.kept hd)
  clear hd
  generalize hxsl : xs.length = m at *
  have hz := hb.size
  go_wp2_with fail
  refine (HSE.out gx cx _ (VL.out.cell (i := 0) rfl) HM.out HX.out).mono ?_
  rintro e w4 ⟨g1, c1, rfl, hown, hd⟩
  have HO := Lib.hid (own_mono hown (show w.heap.size ≤ _ by omega))
  replace hb := hb.trans (hd.mono hb.size)
  clear hd hown
  go_wp2
  go_ret
  exact ⟨g1, c1, rfl, HO.out, hb⟩
end Go.Proofs.YtjdcdhhbgijaoaaGreatDoor
namespace Go.Proofs.YtjdcdhhbgijaoaaGreatDoor
open Go.ChangeShapes Go.WideShapes Go.ChangeAt Go.RowKit Go.Sort

/-! ### Plain -/
/-- a down play of one tile that forms an across word too -/
def Brd.double (b : Brd) (p : Ply) : Bool := p.down && (decide ((b.fresh p).length = 1) && decide (1 < (b.words p).length))
/-- the tiles that a play places, in order -/
def Brd.tiles (b : Brd) (p : Ply) : List UInt8 := (placedB p.word (b.fresh p)).map tlC
/-- the first fault of a play -/
def Brd.legal (b : Brd) (ws : List ByteArray) (rack : ByteArray) (p : Ply) : Int :=
  if b.okPlay p = false then 2 else if hasT rack.data.toList (b.tiles p) = false then 3 else if b.touch p = false then 6 else if b.double p = true then 4 else if 0 < (wrongL ws (b.words p)).length then 9 else 0
def Brd.legalPlay (b : Brd) (ws : List ByteArray) (rack : ByteArray) (p : Ply) : Int :=
  if (b.ok && (lexOk ws && rackOk rack.data.toList)) = false then 1 else b.legal ws rack p
theorem legal_range {b : Brd} {ws : List ByteArray} {rack : ByteArray} {p : Ply} (h : b.okPlay p = false) : b.legal ws rack p = 2 := by unfold Brd.legal; rw [if_pos h]
theorem legal_found {b : Brd} {ws : List ByteArray} {rack : ByteArray} {p : Ply} (h : b.okPlay p = true) (h2 : hasT rack.data.toList (b.tiles p) = false) : b.legal ws rack p = 3 := by unfold Brd.legal; rw [h, h2]; rfl
theorem legal_state {b : Brd} {ws : List ByteArray} {rack : ByteArray} {p : Ply} (h : b.okPlay p = true) (h2 : hasT rack.data.toList (b.tiles p) = true) (h3 : b.touch p = false) : b.legal ws rack p = 6 := by unfold Brd.legal; rw [h, h2, h3]; rfl
theorem legal_exists {b : Brd} {ws : List ByteArray} {rack : ByteArray} {p : Ply} (h : b.okPlay p = true) (h2 : hasT rack.data.toList (b.tiles p) = true) (h3 : b.touch p = true) (h4 : b.double p = true) : b.legal ws rack p = 4 := by unfold Brd.legal; rw [h, h2, h3, h4]; rfl
theorem legal_illegal {b : Brd} {ws : List ByteArray} {rack : ByteArray} {p : Ply} (h : b.okPlay p = true) (h2 : hasT rack.data.toList (b.tiles p) = true) (h3 : b.touch p = true) (h4 : b.double p = false) : b.legal ws rack p = if 0 < (wrongL ws (b.words p)).length then 9 else 0 := by unfold Brd.legal; rw [h, h2, h3, h4]; rfl
theorem PGood.tiles_ok {b : Brd} {p : Ply} {n : Nat} (h : PGood b p n) : ∀ c ∈ b.tiles p, tileB c = true := by
  intro c hc
  unfold Brd.tiles placedB at hc
  obtain ⟨d, hd, rfl⟩ := List.mem_map.1 hc
  obtain ⟨i, hi, rfl⟩ := List.mem_map.1 hd
  have hl := (freshL_lt hi).1
  refine tile_of_let ?_
  rw [u8_byte hl]
  exact (List.all_eq_true.1 h.letters) _ (by rw [← bytes_get p.word i hl]; exact List.getElem_mem _)
/-- the reference's way of taking tiles answers as the plain law -/
theorem take_tiles {a : ByteArray} {R L : List UInt8} (ha : pileOk a.data.toList = true) (hR : SortedT R) (hp : R.Perm L) (hL : ∀ c ∈ L, tileB c = true) : decide (takeK R a.data.toList = R.length) = hasT a.data.toList L := by
  rw [take_has (pile_sorted ha) hR (fun c hc => hL c (hp.mem_iff.1 hc))]
  exact has_congr fun k _ => cnt_perm hp k
set_option maxRecDepth 100000 in
set_option maxHeartbeats 4000000 in
theorem l12Double_any (b : Brd) (p : Ply) (n : Nat) (g o : Nat) (w : World) (hg : BAt w g o b) (hp : PGood b p n) :
    Calls Tryz.prog 171 #[.pointer (some ⟨g, o, none⟩), .agg #[.int .i64 p.row, .int .i64 p.col, .bool p.down, .string p.word]] w fun e w' => e = .returned (.bool (b.double p)) ∧ Below w.heap.size w w' := by
  have hlt := hg.lt
  have hb : Below w.heap.size w (w.alloc (.cells #[.int .i64 p.row, .int .i64 p.col, .bool p.down, .string p.word] 30)) := (Below.refl _ _).alloc (Nat.le_refl _) _
  have V0 := Lib.hid (VarAt.new w 30 [.int .i64 p.row, .int .i64 p.col, .bool p.down, .string p.word])
  have HG := Lib.hid (hg.kept hb)
  clear hg
  have HGD := Lib.hid hp.good
  have HDB : Hid (b.double p = (p.down && (decide ((b.fresh p).length = 1) && decide (1 < (formB (b.view p) p.r p.c p.word (b.fresh p)).length)))) := Lib.hid (by unfold Brd.double; rw [words_form, List.length_map])
  have HFO : Hid (∀ x W, BAt W x 0 (b.flat p.down) → Calls Tryz.prog 175 #[.pointer (some ⟨x, 0, none⟩), .agg #[.int .i64 p.flat.row, .int .i64 p.flat.col, .bool p.flat.down, .string p.word]] W (TextsPost W (formB (b.view p) p.r p.c p.word (b.fresh p)))) := Lib.hid (fun x W h => by
    have := l12Formed_any (b.flat p.down) n p.flat.row p.flat.col p.flat.down p.word x 0 W (hp.good.flat p.down) h hp.twelve (by rw [Ply.flat_row]; exact hp.r0) (by rw [Ply.flat_row]; exact hp.r1) (by rw [Ply.flat_col]; exact hp.c0) (by rw [Ply.flat_col]; exact hp.c1)
    rw [Ply.flat_row, Ply.flat_col] at this ⊢
    exact this)
  have HFR : Hid (∀ x W, BAt W x 0 (b.flat p.down) → Calls Tryz.prog 98 #[.pointer (some ⟨x, 0, none⟩), .agg #[.int .i64 p.flat.row, .int .i64 p.flat.col, .bool p.flat.down, .string p.word]] W (NatsPost W (b.fresh p))) := Lib.hid (fun x W h => by
    have := l12Fresh_any (b.flat p.down) n p.flat.row p.flat.col p.flat.down p.word x 0 W (hp.good.flat p.down) h hp.twelve (by rw [Ply.flat_row]; exact hp.r0) (by rw [Ply.flat_row]; exact hp.r1) (by rw [Ply.flat_col]; exact hp.c0) (by rw [Ply.flat_col]; exact hp.c1)
    rw [Ply.flat_row, Ply.flat_col] at this ⊢
    exact this)
  have hxl := formB_len (b.view p) p.r p.c p.word (b.fresh p)
  have hfl : (b.fresh p).length ≤ p.word.size := freshL_len _ _ _ _
  have hs12 := hp.twelve
  clear hp
  generalize b.double p = ans at *
  generalize formB (b.view p) p.r p.c p.word (b.fresh p) = xs at *
  generalize b.fresh p = fr at *
  go_enter Tryz.func171, Tryz.ntmps171
  go_upto_region 1 with fail
  generalize w.alloc (.cells #[.int .i64 p.row, .int .i64 p.col, .bool p.down, .string p.word] 30) = w1 at *
  have c0 := V0.out.cell (i := 0) rfl
  have c1 := V0.out.cell (i := 1) rfl
  have c2 := V0.out.cell (i := 2) rfl
  have c3 := V0.out.cell (i := 3) rfl
  cases hdn : p.down with
  | false =>
    have HN : Hid (ans = false) := Lib.hid (by rw [HDB.out, hdn]; rfl)
    clear HDB
    rw [hdn] at c2
    go_wp2
    go_ret
    exact ⟨ret_bool HN.out.symm, hb⟩
  | true =>
    have HN : Hid (ans = (decide (fr.length = 1) && decide (1 < xs.length))) := Lib.hid (by rw [HDB.out, hdn, Bool.true_and])
    clear HDB
    have HFT : Hid (∀ W, BAt W g o b → Calls Tryz.prog 91 #[.pointer (some ⟨g, o, none⟩), .agg #[.int .i64 p.row, .int .i64 p.col, .bool true, .string p.word]] W fun e w' => e = .returned (flatV b p) ∧ Below W.heap.size W w') := Lib.hid (fun W h => by
      have h3 := l12Flat_any b p n g o W HGD.out h
      rw [show Value.bool p.down = Value.bool true from by rw [hdn]] at h3
      exact h3)
    rw [hdn] at c2
    go_upto_region 3 with fail
    go_wp2_with fail
    refine (HFT.out _ HG.out).mono ?_
    rintro e w4 ⟨rfl, hd⟩
    unfold flatV
    clear c0 c1 c2 c3
    replace hb := hb.trans (hd.mono hb.size)
    replace HG := Lib.hid (HG.out.kept hd)
    clear hd
    generalize b.flat p.down = f at *
    generalize p.flat.row = fr0 at *
    generalize p.flat.col = fc at *
    generalize p.flat.down = fd at *
    have HF : Hid (BAt ((w4.alloc (.cells #[.int .i64 f.size, .string f.premium, .string f.cells] 25)).alloc (.cells #[.int .i64 fr0, .int .i64 fc, .bool fd, .string p.word] 30)) w4.heap.size 0 f) := Lib.hid ((BAt.new w4 f 25).kept ((Below.refl _ _).alloc (Nat.le_refl _) _))
    have HQ : Hid (VarAt ((w4.alloc (.cells #[.int .i64 f.size, .string f.premium, .string f.cells] 25)).alloc (.cells #[.int .i64 fr0, .int .i64 fc, .bool fd, .string p.word] 30)) (w4.heap.size + 1) 30 [.int .i64 fr0, .int .i64 fc, .bool fd, .string p.word]) := Lib.hid (by
      have := VarAt.new (w4.alloc (.cells #[.int .i64 f.size, .string f.premium, .string f.cells] 25)) 30 [.int .i64 fr0, .int .i64 fc, .bool fd, .string p.word]
      simp only [World.size_alloc] at this
      exact this)
    have hd : Below w4.heap.size w4 ((w4.alloc (.cells #[.int .i64 f.size, .string f.premium, .string f.cells] 25)).alloc (.cells #[.int .i64 fr0, .int .i64 fc, .bool fd, .string p.word] 30)) := ((Below.refl _ _).alloc (Nat.le_refl _) _).alloc (by simp) _
    replace hb := hb.trans (hd.mono hb.size)
    replace HG := Lib.hid (HG.out.kept hd)
    clear hd
    go_upto_region 4 with fail
    generalize (w4.alloc (.cells #[.int .i64 f.size, .string f.premium, .string f.cells] 25)).alloc (.cells #[.int .i64 fr0, .int .i64 fc, .bool fd, .string p.word] 30) = w5 at *
    have c0 := HQ.out.cell (i := 0) rfl
    have c1 := HQ.out.cell (i := 1) rfl
    have c2 := HQ.out.cell (i := 2) rfl
    have c3 := HQ.out.cell (i := 3) rfl
    go_wp2_with fail
    refine (HFR.out _ _ HF.out).mono ?_
    rintro e w6 ⟨g1, cx, rfl, hx0, hd⟩
    clear hx0
    replace hb := hb.trans (hd.mono hb.size)
    replace c0 := cell_kept c0 hd
    replace c1 := cell_kept c1 hd
    replace c2 := cell_kept c2 hd
    replace c3 := cell_kept c3 hd
    replace HF := Lib.hid (HF.out.kept hd)
    clear hd
    by_cases e1 : fr.length = 1
    · have HN2 : Hid (ans = decide (1 < xs.length)) := Lib.hid (by rw [HN.out, decide_eq_true e1, Bool.true_and])
      rw [e1]
      clear HN e1
      go_wp2_with fail
      refine (HFO.out _ _ HF.out).mono ?_
      rintro e w7 ⟨g2, cy, rfl, hx0, hd⟩
      clear hx0
      replace hb := hb.trans (hd.mono hb.size)
      clear hd
      go_wp2
      go_ret
      exact ⟨ret_bool (by rw [HN2.out]; exact decide_eq_decide.2 (by omega)), hb⟩
    · have e2 : ((fr.length : Int) == 1) = false := by rw [beq_eq_false_iff_ne]; omega
      have HN2 : Hid (ans = false) := Lib.hid (by rw [HN.out, decide_eq_false e1, Bool.false_and])
      clear HN e1 HFO
      go_wp2
      go_ret
      exact ⟨ret_bool HN2.out.symm, hb⟩
set_option maxRecDepth 100000 in
set_option maxHeartbeats 8000000 in
theorem l12Legal_any (b : Brd) (p : Ply) (ws : List ByteArray) (rack : ByteArray) (a : Option Addr) (cap : Nat) (g o lg lo : Nat) (w : World) (hg : BAt w g o b) (hlc : w.cell? ⟨lg, lo, none⟩ = some (.slice a ws.length cap)) (hm : SliceAt w 1 Tx.enc a ws) (hf : b.fit) (hpf : p.fit) (hi : lexOk ws = true) (hr : rackOk rack.data.toList = true) :
    Calls Tryz.prog 77 #[.pointer (some ⟨g, o, none⟩), .pointer (some ⟨lg, lo, none⟩), .string rack, .agg #[.int .i64 p.row, .int .i64 p.col, .bool p.down, .string p.word]] w fun e w' => e = .returned (.int .i64 (b.legal ws rack p)) ∧ Below w.heap.size w w' := by
  have hlt := hg.lt
  have hb : Below w.heap.size w (w.alloc (.cells #[.int .i64 p.row, .int .i64 p.col, .bool p.down, .string p.word] 30)) := (Below.refl _ _).alloc (Nat.le_refl _) _
  have V0 := Lib.hid (VarAt.new w 30 [.int .i64 p.row, .int .i64 p.col, .bool p.down, .string p.word])
  have HG := Lib.hid (hg.kept hb)
  have HM := Lib.hid (hm.kept hb)
  have HL := Lib.hid (cell_kept hlc hb)
  have HOK : Hid (∀ W, BAt W g o b → Calls Tryz.prog 81 #[.pointer (some ⟨g, o, none⟩), .agg #[.int .i64 p.row, .int .i64 p.col, .bool p.down, .string p.word]] W fun e w' => e = .returned (.bool (b.okPlay p)) ∧ Below W.heap.size W w') := Lib.hid (fun W h => l12Ok_any b p g o W h hf hpf)
  clear hg hm hlc
  cases hk : b.okPlay p with
  | false =>
    have HN := Lib.hid (legal_range (ws := ws) (rack := rack) hk)
    rw [hk] at HOK
    clear hk
    generalize b.legal ws rack p = ans at *
    go_enter Tryz.func77, Tryz.ntmps77
    go_upto_region 1 with fail
    generalize w.alloc (.cells #[.int .i64 p.row, .int .i64 p.col, .bool p.down, .string p.word] 30) = w1 at *
    have c0 := V0.out.cell (i := 0) rfl
    have c1 := V0.out.cell (i := 1) rfl
    have c2 := V0.out.cell (i := 2) rfl
    have c3 := V0.out.cell (i := 3) rfl
    go_wp2_with fail
    refine (HOK.out _ HG.out).mono ?_
    rintro e w3 ⟨rfl, hd⟩
    replace hb := hb.trans (hd.mono hb.size)
    clear hd c0 c1 c2 c3
    go_wp2
    go_ret
    exact ⟨ret_int HN.out.symm, hb⟩
  | true =>
    obtain ⟨n, hp⟩ := okPlay_good hk
    have hrl : rack.size ≤ 7 := by
      have := (rack_pile hr).2
      simpa using this
    have hs12 := hp.twelve
    have hfl : (b.fresh p).length ≤ p.word.size := freshL_len _ _ _ _
    have HTK : Hid (∀ R : List UInt8, SortedT R → R.Perm (b.tiles p) → decide (takeK R rack.data.toList = R.length) = hasT rack.data.toList (b.tiles p)) := Lib.hid (fun R h1 h2 => take_tiles (rack_pile hr).1 h1 h2 hp.tiles_ok)
    have HLF := Lib.hid (legal_found (ws := ws) (rack := rack) hk)
    have HLS := Lib.hid (legal_state (ws := ws) (rack := rack) hk)
    have HLE := Lib.hid (legal_exists (ws := ws) (rack := rack) hk)
    have HLI := Lib.hid (legal_illegal (ws := ws) (rack := rack) hk)
    have HFL : Hid (∀ W, BAt W g o b → Calls Tryz.prog 91 #[.pointer (some ⟨g, o, none⟩), .agg #[.int .i64 p.row, .int .i64 p.col, .bool p.down, .string p.word]] W fun e w' => e = .returned (flatV b p) ∧ Below W.heap.size W w') := Lib.hid (fun W h => l12Flat_any b p n g o W hp.good h)
    have HPL : Hid (∀ x W, BAt W x 0 (b.flat p.down) → Calls Tryz.prog 123 #[.pointer (some ⟨x, 0, none⟩), .agg #[.int .i64 p.flat.row, .int .i64 p.flat.col, .bool p.flat.down, .string p.word]] W (StrPost W (placedB p.word (b.fresh p)))) := Lib.hid (fun x W h => by
      refine l12Placed_of (b.flat p.down) p.flat.row p.flat.col p.flat.down p.word (b.fresh p) x W h (Lib.hid (fun W2 h2 => ?_)) (fun i hi => (freshL_lt hi).1) (by omega)
      have := l12Fresh_any (b.flat p.down) n p.flat.row p.flat.col p.flat.down p.word x 0 W2 (hp.good.flat p.down) h2 hp.twelve (by rw [Ply.flat_row]; exact hp.r0) (by rw [Ply.flat_row]; exact hp.r1) (by rw [Ply.flat_col]; exact hp.c0) (by rw [Ply.flat_col]; exact hp.c1)
      rw [Ply.flat_row, Ply.flat_col] at this ⊢
      exact this)
    have HTI : Hid (∀ W, Calls Tryz.prog 122 #[.string (mkB (placedB p.word (b.fresh p)))] W (SortPost W (b.tiles p))) := Lib.hid (fun W => by
      have := l03Tiles_any (mkB (placedB p.word (b.fresh p))) W (by rw [mkB_size, placedB_len]; omega)
      rw [mkB_data] at this
      exact this)
    have HTO : Hid (∀ W, BAt W g o b → Calls Tryz.prog 82 #[.pointer (some ⟨g, o, none⟩), .agg #[.int .i64 p.row, .int .i64 p.col, .bool p.down, .string p.word]] W fun e w' => e = .returned (.bool (b.touch p)) ∧ Below W.heap.size W w') := Lib.hid (fun W h => l12Touches_any b p n g o W h hp)
    have HDO : Hid (∀ W, BAt W g o b → Calls Tryz.prog 171 #[.pointer (some ⟨g, o, none⟩), .agg #[.int .i64 p.row, .int .i64 p.col, .bool p.down, .string p.word]] W fun e w' => e = .returned (.bool (b.double p)) ∧ Below W.heap.size W w') := Lib.hid (fun W h => l12Double_any b p n g o W h hp)
    have HWR : Hid (∀ W, BAt W g o b → W.cell? ⟨lg, lo, none⟩ = some (.slice a ws.length cap) → SliceAt W 1 Tx.enc a ws → Calls Tryz.prog 149 #[.pointer (some ⟨g, o, none⟩), .pointer (some ⟨lg, lo, none⟩), .agg #[.int .i64 p.row, .int .i64 p.col, .bool p.down, .string p.word]] W (TextsPost W (wrongL ws (b.words p)))) := Lib.hid (fun W h1 h2 h3 => l12Wrong_any b p n ws a cap g o lg lo W h1 h2 h3 hp hi)
    have HTA : Hid (∀ R : List UInt8, SortedT R → R.Perm (b.tiles p) → ∀ W, Calls Tryz.prog 170 #[.string rack, .string (mkB R)] W fun e w' => ∃ t : ByteArray, e = .returned (.tuple #[.string t, .bool (hasT rack.data.toList (b.tiles p))]) ∧ Below W.heap.size W w') := Lib.hid (fun R h1 h2 W => by
      have h3 := l03Take_any rack (mkB R) W (by omega) (by rw [mkB_size, h2.length_eq]; unfold Brd.tiles; rw [List.length_map, placedB_len]; omega)
      rw [mkB_data, HTK.out R h1 h2] at h3
      exact h3)
    rw [hk] at HOK
    have hbl : (b.tiles p).length ≤ 12 := by unfold Brd.tiles; rw [List.length_map, placedB_len]; omega
    have hwl : (wrongL ws (b.words p)).length ≤ 13 := Nat.le_trans (wrongL_len _ _) (words_len hp)
    clear hk hp hr hi hf hpf HTK
    generalize b.legal ws rack p = ans at *
    generalize wrongL ws (b.words p) = xs at *
    generalize b.double p = db at *
    generalize b.touch p = tc at *
    generalize placedB p.word (b.fresh p) = pb at *
    generalize b.tiles p = tl at *
    go_enter Tryz.func77, Tryz.ntmps77
    go_upto_region 1 with fail
    generalize w.alloc (.cells #[.int .i64 p.row, .int .i64 p.col, .bool p.down, .string p.word] 30) = w1 at *
    have c0 := V0.out.cell (i := 0) rfl
    have c1 := V0.out.cell (i := 1) rfl
    have c2 := V0.out.cell (i := 2) rfl
    have c3 := V0.out.cell (i := 3) rfl
    go_wp2_with fail
    refine (HOK.out _ HG.out).mono ?_
    rintro e w3 ⟨rfl, hd⟩
    replace HL := Lib.hid (cell_kept HL.out hd)
    replace hb := hb.trans (hd.mono hb.size)
    replace c0 := cell_kept c0 hd
    replace c1 := cell_kept c1 hd
    replace c2 := cell_kept c2 hd
    replace c3 := cell_kept c3 hd
    replace V0 := Lib.hid (V0.out.kept hd)
    replace HG := Lib.hid (HG.out.kept hd)
    replace HM := Lib.hid (HM.out.kept hd)
    clear hd
    go_wp2_with fail
    refine (HFL.out _ HG.out).mono ?_
    rintro e w4 ⟨rfl, hd⟩
    unfold flatV
    replace HL := Lib.hid (cell_kept HL.out hd)
    replace hb := hb.trans (hd.mono hb.size)
    replace c0 := cell_kept c0 hd
    replace c1 := cell_kept c1 hd
    replace c2 := cell_kept c2 hd
    replace c3 := cell_kept c3 hd
    replace V0 := Lib.hid (V0.out.kept hd)
    replace HG := Lib.hid (HG.out.kept hd)
    replace HM := Lib.hid (HM.out.kept hd)
    clear hd
    generalize b.flat p.down = f at *
    generalize p.flat.row = fr0 at *
    generalize p.flat.col = fc at *
    generalize p.flat.down = fd at *
    have HF : Hid (BAt ((w4.alloc (.cells #[.int .i64 f.size, .string f.premium, .string f.cells] 25)).alloc (.cells #[.int .i64 fr0, .int .i64 fc, .bool fd, .string p.word] 30)) w4.heap.size 0 f) := Lib.hid ((BAt.new w4 f 25).kept ((Below.refl _ _).alloc (Nat.le_refl _) _))
    have HQ : Hid (VarAt ((w4.alloc (.cells #[.int .i64 f.size, .string f.premium, .string f.cells] 25)).alloc (.cells #[.int .i64 fr0, .int .i64 fc, .bool fd, .string p.word] 30)) (w4.heap.size + 1) 30 [.int .i64 fr0, .int .i64 fc, .bool fd, .string p.word]) := Lib.hid (by
      have := VarAt.new (w4.alloc (.cells #[.int .i64 f.size, .string f.premium, .string f.cells] 25)) 30 [.int .i64 fr0, .int .i64 fc, .bool fd, .string p.word]
      simp only [World.size_alloc] at this
      exact this)
    have hd : Below w4.heap.size w4 ((w4.alloc (.cells #[.int .i64 f.size, .string f.premium, .string f.cells] 25)).alloc (.cells #[.int .i64 fr0, .int .i64 fc, .bool fd, .string p.word] 30)) := ((Below.refl _ _).alloc (Nat.le_refl _) _).alloc (by simp) _
    replace HL := Lib.hid (cell_kept HL.out hd)
    clear c0 c1 c2 c3
    replace hb := hb.trans (hd.mono hb.size)
    replace V0 := Lib.hid (V0.out.kept hd)
    replace HG := Lib.hid (HG.out.kept hd)
    replace HM := Lib.hid (HM.out.kept hd)
    clear hd
    go_upto_region 4 with fail
    generalize (w4.alloc (.cells #[.int .i64 f.size, .string f.premium, .string f.cells] 25)).alloc (.cells #[.int .i64 fr0, .int .i64 fc, .bool fd, .string p.word] 30) = w5 at *
    have q0 := HQ.out.cell (i := 0) rfl
    have q1 := HQ.out.cell (i := 1) rfl
    have q2 := HQ.out.cell (i := 2) rfl
    have q3 := HQ.out.cell (i := 3) rfl
    go_wp2_with fail
    refine (HPL.out _ _ HF.out).mono ?_
    rintro e w6 ⟨rfl, hd⟩
    replace HL := Lib.hid (cell_kept HL.out hd)
    clear q0 q1 q2 q3 HF HQ
    replace hb := hb.trans (hd.mono hb.size)
    replace V0 := Lib.hid (V0.out.kept hd)
    replace HG := Lib.hid (HG.out.kept hd)
    replace HM := Lib.hid (HM.out.kept hd)
    clear hd
    go_wp2_with fail
    refine (HTI.out _).mono ?_
    rintro e w7 ⟨R, rfl, hr1, hr2, hd⟩
    have HTR := Lib.hid (HTA.out R hr1 hr2)
    clear hr1 hr2
    replace HL := Lib.hid (cell_kept HL.out hd)
    replace hb := hb.trans (hd.mono hb.size)
    replace V0 := Lib.hid (V0.out.kept hd)
    replace HG := Lib.hid (HG.out.kept hd)
    replace HM := Lib.hid (HM.out.kept hd)
    clear hd
    generalize mkB R = mr at *
    go_wp2_with fail
    refine (HTR.out _).mono ?_
    rintro e w8 ⟨t, rfl, hd⟩
    replace HL := Lib.hid (cell_kept HL.out hd)
    replace hb := hb.trans (hd.mono hb.size)
    replace V0 := Lib.hid (V0.out.kept hd)
    replace HG := Lib.hid (HG.out.kept hd)
    replace HM := Lib.hid (HM.out.kept hd)
    clear hd
    clear HTR HTA HTI HPL HFL HOK
    cases hh : hasT rack.data.toList tl with
    | false =>
      have HN := Lib.hid (HLF.out hh)
      clear HLF HLS HLE HLI
      go_wp2
      go_ret
      exact ⟨ret_int HN.out.symm, hb⟩
    | true =>
      replace HLS := Lib.hid (HLS.out hh)
      replace HLE := Lib.hid (HLE.out hh)
      replace HLI := Lib.hid (HLI.out hh)
      clear HLF hh
      have c0 := V0.out.cell (i := 0) rfl
      have c1 := V0.out.cell (i := 1) rfl
      have c2 := V0.out.cell (i := 2) rfl
      have c3 := V0.out.cell (i := 3) rfl
      go_wp2_with fail
      refine (HTO.out _ HG.out).mono ?_
      rintro e w9 ⟨rfl, hd⟩
      replace HL := Lib.hid (cell_kept HL.out hd)
      replace hb := hb.trans (hd.mono hb.size)
      replace c0 := cell_kept c0 hd
      replace c1 := cell_kept c1 hd
      replace c2 := cell_kept c2 hd
      replace c3 := cell_kept c3 hd
      replace HG := Lib.hid (HG.out.kept hd)
      replace HM := Lib.hid (HM.out.kept hd)
      clear hd
      cases ht : tc with
      | false =>
        have HN := Lib.hid (HLS.out ht)
        clear HLS HLE HLI
        go_wp2
        go_ret
        exact ⟨ret_int HN.out.symm, hb⟩
      | true =>
        replace HLE := Lib.hid (HLE.out ht)
        replace HLI := Lib.hid (HLI.out ht)
        clear HLS ht
        go_wp2_with fail
        refine (HDO.out _ HG.out).mono ?_
        rintro e w10 ⟨rfl, hd⟩
        replace HL := Lib.hid (cell_kept HL.out hd)
        replace hb := hb.trans (hd.mono hb.size)
        replace c0 := cell_kept c0 hd
        replace c1 := cell_kept c1 hd
        replace c2 := cell_kept c2 hd
        replace c3 := cell_kept c3 hd
        replace HG := Lib.hid (HG.out.kept hd)
        replace HM := Lib.hid (HM.out.kept hd)
        clear hd
        cases hdb : db with
        | true =>
          have HN := Lib.hid (HLE.out hdb)
          clear HLE HLI
          go_wp2
          go_ret
          exact ⟨ret_int HN.out.symm, hb⟩
        | false =>
          have HN := Lib.hid (HLI.out hdb)
          clear HLE HLI hdb
          go_wp2_with fail
          refine (HWR.out _ HG.out HL.out HM.out).mono ?_
          rintro e w11 ⟨g1, cx, rfl, hx0, hd⟩
          replace hb := hb.trans (hd.mono hb.size)
          clear hx0 hd
          by_cases h0 : 0 < xs.length
          · have HN2 : Hid (ans = 9) := Lib.hid (by rw [HN.out, if_pos h0])
            clear HN
            go_wp2
            go_ret
            exact ⟨ret_int HN2.out.symm, hb⟩
          · have HN2 : Hid (ans = 0) := Lib.hid (by rw [HN.out, if_neg h0])
            have h1 : xs.length = 0 := by omega
            rw [h1]
            clear HN
            go_wp2
            go_ret
            exact ⟨ret_int HN2.out.symm, hb⟩
/-- the code when an argument is not valid -/
theorem legalPlay_no {b : Brd} {ws : List ByteArray} {rack : ByteArray} {p : Ply} (h : (b.ok && (lexOk ws && rackOk rack.data.toList)) = false) : b.legalPlay ws rack p = 1 := by unfold Brd.legalPlay; rw [if_pos h]
theorem legalPlay_yes {b : Brd} {ws : List ByteArray} {rack : ByteArray} {p : Ply} (h1 : b.ok = true) (h2 : lexOk ws = true) (h3 : rackOk rack.data.toList = true) : b.legalPlay ws rack p = b.legal ws rack p := by unfold Brd.legalPlay; rw [h1, h2, h3]; rfl
set_option maxRecDepth 100000 in
set_option maxHeartbeats 4000000 in
theorem specLegalPlay_any (b : Brd) (p : Ply) (ws : List ByteArray) (rack : ByteArray) (a : Option Addr) (cap : Nat) (w : World) (hm : SliceAt w 1 Tx.enc a ws) (hf : b.fit) (hpf : p.fit) (hl : ws.length ≤ 9223372036854775807) (hwf : WordsFit ws) (hr : rack.size ≤ 9223372036854775807) :
    Calls Tryz.prog 12 #[.agg #[.int .i64 b.size, .string b.premium, .string b.cells], .agg #[.slice a ws.length cap], .string rack, .agg #[.int .i64 p.row, .int .i64 p.col, .bool p.down, .string p.word]] w fun e w' => e = .returned (.int .i64 (b.legalPlay ws rack p)) ∧ Below w.heap.size w w' := by
  obtain ⟨w2, hw2⟩ : ∃ w2, w2 = ((w.alloc (.cells #[.int .i64 b.size, .string b.premium, .string b.cells] 25)).alloc (.cells #[.slice a ws.length cap] 28)).alloc (.cells #[.int .i64 p.row, .int .i64 p.col, .bool p.down, .string p.word] 30) := ⟨_, rfl⟩
  have hb : Below w.heap.size w w2 := by rw [hw2]; exact (((Below.refl _ _).alloc (Nat.le_refl _) _).alloc (by simp) _).alloc (by simp; omega) _
  have hz2 : w.heap.size + 2 < w2.heap.size := by rw [hw2]; simp
  have HG : Hid (BAt w2 w.heap.size 0 b) := by
    rw [hw2]
    exact Lib.hid (((BAt.new w b 25).kept ((Below.refl _ _).alloc (Nat.le_refl _) _)).kept ((Below.refl _ _).alloc (Nat.le_refl _) _))
  have VL : Hid (VarAt w2 (w.heap.size + 1) 28 [.slice a ws.length cap]) := by
    rw [hw2]
    have := (VarAt.new (w.alloc (.cells #[.int .i64 b.size, .string b.premium, .string b.cells] 25)) 28 [.slice a ws.length cap]).kept ((Below.refl _ _).alloc (Nat.le_refl _) (.cells #[.int .i64 p.row, .int .i64 p.col, .bool p.down, .string p.word] 30))
    simp only [World.size_alloc] at this
    exact Lib.hid this
  have V0 : Hid (VarAt w2 (w.heap.size + 2) 30 [.int .i64 p.row, .int .i64 p.col, .bool p.down, .string p.word]) := by
    rw [hw2]
    have := VarAt.new ((w.alloc (.cells #[.int .i64 b.size, .string b.premium, .string b.cells] 25)).alloc (.cells #[.slice a ws.length cap] 28)) 30 [.int .i64 p.row, .int .i64 p.col, .bool p.down, .string p.word]
    simp only [World.size_alloc] at this
    exact Lib.hid this
  have HM := Lib.hid (hm.kept hb)
  have HW2 := Lib.hid hw2
  clear hw2 hm
  have HWF := Lib.hid hwf
  clear hwf
  have HOK : Hid (∀ W, W.cell? ⟨w.heap.size + 1, 0, none⟩ = some (.slice a ws.length cap) → SliceAt W 1 Tx.enc a ws → Calls Tryz.prog 75 #[.pointer (some ⟨w.heap.size + 1, 0, none⟩)] W fun e w' => e = .returned (.bool (lexOk ws)) ∧ Drew W w') := Lib.hid (fun W h1 h2 => l05Ok_any ws _ 0 a cap W h1 h2 hl HWF.out)
  have HRK : Hid (∀ W, Calls Tryz.prog 76 #[.string rack] W fun e w' => e = .returned (.bool (rackOk rack.data.toList)) ∧ Drew W w') := Lib.hid (fun W => l03Rack_any rack W hr)
  cases hk1 : b.ok with
  | false =>
    have HN : Hid (b.legalPlay ws rack p = 1) := Lib.hid (legalPlay_no (by rw [hk1]; rfl))
    generalize b.legalPlay ws rack p = ans at *
    go_enter Tryz.func12, Tryz.ntmps12
    go_upto_region 1 with fail
    rw [← HW2.out]
    clear HW2
    have l0 := VL.out.cell (i := 0) rfl
    go_wp2_with fail
    refine (l11Ok_any b w.heap.size 0 _ HG.out hf).mono ?_
    rintro e w3 ⟨rfl, hdq⟩
    have hd := hdq.bels
    clear hdq
    replace hb := hb.trans (hd.mono hb.size)
    replace l0 := cell_kept l0 hd
    replace VL := Lib.hid (VL.out.kept hd)
    replace HG := Lib.hid (HG.out.kept hd)
    replace HM := Lib.hid (HM.out.kept hd)
    replace V0 := Lib.hid (V0.out.kept hd)
    clear hd
    rw [hk1]
    clear hk1
    go_wp2
    go_ret
    exact ⟨ret_int HN.out.symm, hb⟩
  | true =>
    cases hk2 : lexOk ws with
    | false =>
      have HN : Hid (b.legalPlay ws rack p = 1) := Lib.hid (legalPlay_no (by rw [hk1, hk2]; rfl))
      generalize b.legalPlay ws rack p = ans at *
      rw [hk2] at HOK
      go_enter Tryz.func12, Tryz.ntmps12
      go_upto_region 1 with fail
      rw [← HW2.out]
      clear HW2 hk2
      have l0 := VL.out.cell (i := 0) rfl
      go_wp2_with fail
      refine (l11Ok_any b w.heap.size 0 _ HG.out hf).mono ?_
      rintro e w3 ⟨rfl, hdq⟩
      have hd := hdq.bels
      clear hdq
      replace hb := hb.trans (hd.mono hb.size)
      replace l0 := cell_kept l0 hd
      replace VL := Lib.hid (VL.out.kept hd)
      replace HG := Lib.hid (HG.out.kept hd)
      replace HM := Lib.hid (HM.out.kept hd)
      replace V0 := Lib.hid (V0.out.kept hd)
      clear hd
      rw [hk1]
      clear hk1
      go_wp2_with fail
      refine (HOK.out _ (VL.out.cell (i := 0) rfl) HM.out).mono ?_
      rintro e w4 ⟨rfl, hdq⟩
      have hd := hdq.bels
      clear hdq
      replace hb := hb.trans (hd.mono hb.size)
      replace HG := Lib.hid (HG.out.kept hd)
      clear hd
      go_wp2
      go_ret
      exact ⟨ret_int HN.out.symm, hb⟩
    | true =>
      cases hk3 : rackOk rack.data.toList with
      | false =>
        have HN : Hid (b.legalPlay ws rack p = 1) := Lib.hid (legalPlay_no (by rw [hk1, hk2, hk3]; rfl))
        generalize b.legalPlay ws rack p = ans at *
        rw [hk2] at HOK
        rw [hk3] at HRK
        go_enter Tryz.func12, Tryz.ntmps12
        go_upto_region 1 with fail
        rw [← HW2.out]
        clear HW2 hk2 hk3
        have l0 := VL.out.cell (i := 0) rfl
        go_wp2_with fail
        refine (l11Ok_any b w.heap.size 0 _ HG.out hf).mono ?_
        rintro e w3 ⟨rfl, hdq⟩
        have hd := hdq.bels
        clear hdq
        replace hb := hb.trans (hd.mono hb.size)
        replace l0 := cell_kept l0 hd
        replace VL := Lib.hid (VL.out.kept hd)
        replace HG := Lib.hid (HG.out.kept hd)
        replace HM := Lib.hid (HM.out.kept hd)
        replace V0 := Lib.hid (V0.out.kept hd)
        clear hd
        rw [hk1]
        clear hk1
        go_wp2_with fail
        refine (HOK.out _ (VL.out.cell (i := 0) rfl) HM.out).mono ?_
        rintro e w4 ⟨rfl, hdq⟩
        have hd := hdq.bels
        clear hdq
        replace hb := hb.trans (hd.mono hb.size)
        replace HG := Lib.hid (HG.out.kept hd)
        clear hd
        go_wp2_with fail
        refine (HRK.out _).mono ?_
        rintro e w5 ⟨rfl, hdq⟩
        have hd := hdq.bels
        clear hdq
        replace hb := hb.trans (hd.mono hb.size)
        replace HG := Lib.hid (HG.out.kept hd)
        clear hd
        go_wp2
        go_ret
        exact ⟨ret_int HN.out.symm, hb⟩
      | true =>
        have HN : Hid (b.legalPlay ws rack p = b.legal ws rack p) := Lib.hid (legalPlay_yes hk1 hk2 hk3)
        have HLG : Hid (∀ W, BAt W w.heap.size 0 b → W.cell? ⟨w.heap.size + 1, 0, none⟩ = some (.slice a ws.length cap) → SliceAt W 1 Tx.enc a ws → Calls Tryz.prog 77 #[.pointer (some ⟨w.heap.size, 0, none⟩), .pointer (some ⟨w.heap.size + 1, 0, none⟩), .string rack, .agg #[.int .i64 p.row, .int .i64 p.col, .bool p.down, .string p.word]] W fun e w' => e = .returned (.int .i64 (b.legal ws rack p)) ∧ Below W.heap.size W w') := Lib.hid (fun W h1 h2 h3 => l12Legal_any b p ws rack a cap _ 0 _ 0 W h1 h2 h3 hf hpf hk2 hk3)
        rw [HN.out]
        clear HN
        generalize b.legal ws rack p = ans at *
        rw [hk2] at HOK
        rw [hk3] at HRK
        go_enter Tryz.func12, Tryz.ntmps12
        go_upto_region 1 with fail
        rw [← HW2.out]
        clear HW2 hk2 hk3
        have l0 := VL.out.cell (i := 0) rfl
        go_wp2_with fail
        refine (l11Ok_any b w.heap.size 0 _ HG.out hf).mono ?_
        rintro e w3 ⟨rfl, hdq⟩
        have hd := hdq.bels
        clear hdq
        replace hb := hb.trans (hd.mono hb.size)
        replace l0 := cell_kept l0 hd
        replace VL := Lib.hid (VL.out.kept hd)
        replace HG := Lib.hid (HG.out.kept hd)
        replace HM := Lib.hid (HM.out.kept hd)
        replace V0 := Lib.hid (V0.out.kept hd)
        clear hd
        rw [hk1]
        clear hk1
        go_wp2_with fail
        refine (HOK.out _ (VL.out.cell (i := 0) rfl) HM.out).mono ?_
        rintro e w4 ⟨rfl, hdq⟩
        have hd := hdq.bels
        clear hdq
        replace hb := hb.trans (hd.mono hb.size)
        replace l0 := cell_kept l0 hd
        replace HG := Lib.hid (HG.out.kept hd)
        replace HM := Lib.hid (HM.out.kept hd)
        replace V0 := Lib.hid (V0.out.kept hd)
        clear hd
        go_wp2_with fail
        refine (HRK.out _).mono ?_
        rintro e w5 ⟨rfl, hdq⟩
        have hd := hdq.bels
        clear hdq
        replace hb := hb.trans (hd.mono hb.size)
        replace l0 := cell_kept l0 hd
        replace HG := Lib.hid (HG.out.kept hd)
        replace HM := Lib.hid (HM.out.kept hd)
        replace V0 := Lib.hid (V0.out.kept hd)
        clear hd
        have c0 := V0.out.cell (i := 0) rfl
        have c1 := V0.out.cell (i := 1) rfl
        have c2 := V0.out.cell (i := 2) rfl
        have c3 := V0.out.cell (i := 3) rfl
        go_wp2_with fail
        refine (HLG.out _ HG.out l0 HM.out).mono ?_
        rintro e w6 ⟨rfl, hd⟩
        replace hb := hb.trans (hd.mono hb.size)
        clear hd
        go_wp2
        go_ret
        exact ⟨rfl, hb⟩
end Go.Proofs.YtjdcdhhbgijaoaaGreatDoor
namespace Go.Proofs.YtjdcdhhbgijaoaaGreatDoor
open Go.ChangeShapes Go.WideShapes Go.ChangeAt Go.RowKit Go.Sort

/-- the cell of internal/bytealg's MaxLen holds a number -/
def EnvL (w : World) : Prop := ∃ m : Int, w.cell? ⟨0, 0, none⟩ = some (.int .i64 m)
theorem EnvL.kept {w w' : World} (h : EnvL w) (hb : Below w.heap.size w w') : EnvL w' := by
  obtain ⟨m, hm⟩ := h
  exact ⟨m, cell_kept hm hb⟩
theorem drop_dot (s : ByteArray) : (⟨(Lib.replaceAll s.data.toList (⟨#[46]⟩ : ByteArray).data.toList (⟨#[]⟩ : ByteArray).data.toList).toArray⟩ : ByteArray) = mkB (lettersL s.data.toList) := by
  have := replaceAll_drop 46 s.data.toList
  show (⟨(Lib.replaceAll s.data.toList [46] []).toArray⟩ : ByteArray) = _
  rw [this]
  rfl
theorem lettersOn_any (b : Brd) (w : World) (hs : b.cells.size ≤ 225) (he : EnvL w) :
    Calls Tryz.prog 115 #[.agg #[.int .i64 b.size, .string b.premium, .string b.cells]] w (StrPost w (lettersL b.cells.data.toList)) := by
  have hb : Below w.heap.size w (w.alloc (.cells #[.int .i64 b.size, .string b.premium, .string b.cells] 25)) := (Below.refl _ _).alloc (Nat.le_refl _) _
  have VB := Lib.hid (VarAt.new w 25 [.int .i64 b.size, .string b.premium, .string b.cells])
  obtain ⟨m, hm⟩ := he.kept hb
  have HRA : Hid (Calls Tryz.prog 203 #[.string b.cells, .string ⟨#[46]⟩, .string ⟨#[]⟩] (w.alloc (.cells #[.int .i64 b.size, .string b.premium, .string b.cells] 25)) fun e w' => e = .returned (.string (mkB (lettersL b.cells.data.toList))) ∧ Below (w.alloc (.cells #[.int .i64 b.size, .string b.premium, .string b.cells] 25)).heap.size (w.alloc (.cells #[.int .i64 b.size, .string b.premium, .string b.cells] 25)) w') := Lib.hid (by
    rw [← drop_dot]
    exact Tryz.strings_ReplaceAll b.cells ⟨#[46]⟩ ⟨#[]⟩ m _ (by omega) hm (by decide) (by
      have : Lib.countB b.cells ⟨#[46]⟩ * (⟨#[]⟩ : ByteArray).size = 0 := by rw [show (⟨#[]⟩ : ByteArray).size = 0 from rfl, Nat.mul_zero]
      omega))
  clear hm
  go_enter Tryz.func115, Tryz.ntmps115
  go_upto_region 1 with fail
  generalize w.alloc (.cells #[.int .i64 b.size, .string b.premium, .string b.cells] 25) = w1 at *
  have c2 := VB.out.cell (i := 2) rfl
  go_wp2_with fail
  refine (HRA.out).mono ?_
  rintro e w3 ⟨rfl, hd⟩
  replace hb := hb.trans (hd.mono hb.size)
  clear hd c2
  go_wp2
  go_ret
  exact ⟨rfl, hb⟩
theorem blank_any (b : Brd) (w : World) (hs : b.cells.size ≤ 225) (he : EnvL w) :
    Calls Tryz.prog 151 #[.agg #[.int .i64 b.size, .string b.premium, .string b.cells]] w fun e w' => e = .returned (.bool b.blank) ∧ Below w.heap.size w w' := by
  have hb : Below w.heap.size w (w.alloc (.cells #[.int .i64 b.size, .string b.premium, .string b.cells] 25)) := (Below.refl _ _).alloc (Nat.le_refl _) _
  have VB := Lib.hid (VarAt.new w 25 [.int .i64 b.size, .string b.premium, .string b.cells])
  have HE := Lib.hid (he.kept hb)
  have HBD : Hid (b.blank = (mkB (lettersL b.cells.data.toList)).toList.isEmpty) := Lib.hid (by rw [empty_cmp]; unfold Brd.blank; rw [mkB_size])
  go_enter Tryz.func151, Tryz.ntmps151
  go_upto_region 1 with fail
  generalize w.alloc (.cells #[.int .i64 b.size, .string b.premium, .string b.cells] 25) = w1 at *
  have c0 := VB.out.cell (i := 0) rfl
  have c1 := VB.out.cell (i := 1) rfl
  have c2 := VB.out.cell (i := 2) rfl
  go_wp2_with fail
  refine (lettersOn_any b _ hs HE.out).mono ?_
  rintro e w3 ⟨rfl, hd⟩
  replace hb := hb.trans (hd.mono hb.size)
  clear hd c0 c1 c2
  generalize mkB (lettersL b.cells.data.toList) = sl at *
  go_wp2
  go_ret
  exact ⟨by rw [HBD.out]; rfl, hb⟩
theorem any_take_succ {α : Type} {l : List α} {f : α → Bool} {k : Nat} (h : k < l.length) (h0 : (l.take k).any f = false) (h1 : f l[k] = false) : (l.take (k + 1)).any f = false := by
  rw [List.take_succ_eq_append_getElem h, List.any_append, h0]
  simp [h1]
theorem any_at {α : Type} {l : List α} {f : α → Bool} {k : Nat} (h : k < l.length) (h1 : f l[k] = true) : l.any f = true := List.any_eq_true.2 ⟨l[k], List.getElem_mem _, h1⟩
set_option maxRecDepth 100000 in
set_option maxHeartbeats 4000000 in
theorem touches_any (b : Brd) (p : Ply) (n : Nat) (w : World) (hp : PGood b p n) (he : EnvL w) :
    Calls Tryz.prog 80 #[.agg #[.int .i64 b.size, .string b.premium, .string b.cells], .agg #[.int .i64 p.row, .int .i64 p.col, .bool p.down, .string p.word]] w fun e w' => e = .returned (.bool (b.touch p)) ∧ Below w.heap.size w w' := by
  have hn15 := hp.good.hi
  have hs12 := hp.twelve
  have hbs := hp.good.size
  have hcs : b.cells.size ≤ 225 := by have := hp.good.cells; have := sq_mono hn15; omega
  have HMI := Lib.hid (hp.middle)
  have HFU := Lib.hid (touch_full (b := b) (p := p))
  have HNS : Hid (∀ W, Calls Tryz.prog 121 #[.agg #[.int .i64 b.size, .string b.premium, .string b.cells], .agg #[.int .i64 p.row, .int .i64 p.col, .bool p.down, .string p.word]] W (NewPost p (b.fresh p) W)) := Lib.hid (fun W => newSquares_any b p n W hp)
  have HWF : Hid (∀ W, Calls Tryz.prog 83 #[.agg #[.int .i64 b.size, .string b.premium, .string b.cells], .agg #[.int .i64 p.row, .int .i64 p.col, .bool p.down, .string p.word]] W (TextsPost W (b.words p))) := Lib.hid (fun W => wordsFormed_any b p n W hp)
  have HBK : Hid (∀ W, EnvL W → Calls Tryz.prog 151 #[.agg #[.int .i64 b.size, .string b.premium, .string b.cells]] W fun e w' => e = .returned (.bool b.blank) ∧ Below W.heap.size W w') := Lib.hid (fun W h => blank_any b W hcs h)
  have hfl : (b.fresh p).length ≤ p.word.size := freshL_len _ _ _ _
  have HBS := Lib.hid hbs
  clear hp hcs hbs
  obtain ⟨w2, hw2⟩ : ∃ w2, w2 = (w.alloc (.cells #[.int .i64 b.size, .string b.premium, .string b.cells] 25)).alloc (.cells #[.int .i64 p.row, .int .i64 p.col, .bool p.down, .string p.word] 30) := ⟨_, rfl⟩
  have hb : Below w.heap.size w w2 := by rw [hw2]; exact ((Below.refl _ _).alloc (Nat.le_refl _) _).alloc (by simp) _
  have VB : Hid (VarAt w2 w.heap.size 25 [.int .i64 b.size, .string b.premium, .string b.cells]) := by
    rw [hw2]
    exact Lib.hid ((VarAt.new w 25 [.int .i64 b.size, .string b.premium, .string b.cells]).kept ((Below.refl _ _).alloc (Nat.le_refl _) _))
  have VP : Hid (VarAt w2 (w.heap.size + 1) 30 [.int .i64 p.row, .int .i64 p.col, .bool p.down, .string p.word]) := by
    rw [hw2]
    have := VarAt.new (w.alloc (.cells #[.int .i64 b.size, .string b.premium, .string b.cells] 25)) 30 [.int .i64 p.row, .int .i64 p.col, .bool p.down, .string p.word]
    simp only [World.size_alloc] at this
    exact Lib.hid this
  have HE := Lib.hid (he.kept hb)
  have HW2 := Lib.hid hw2
  clear hw2 he
  generalize b.touch p = ans at *
  generalize b.blank = bl at *
  generalize b.words p = xs at *
  go_enter Tryz.func80, Tryz.ntmps80
  go_upto_region 1 with fail
  rw [← HW2.out]
  clear HW2
  have b0 := VB.out.cell (i := 0) rfl
  have b1 := VB.out.cell (i := 1) rfl
  have b2 := VB.out.cell (i := 2) rfl
  have p0 := VP.out.cell (i := 0) rfl
  have p1 := VP.out.cell (i := 1) rfl
  have p2 := VP.out.cell (i := 2) rfl
  have p3 := VP.out.cell (i := 3) rfl
  go_wp2_with fail
  refine (HNS.out _).mono ?_
  rintro e w3 ⟨gs, cs, gi, ci, rfl, hgg, hx, hxi, hd⟩
  have HX := Lib.hid (own_mono hx (show w.heap.size ≤ _ from hb.size))
  clear hx hxi hgg
  replace hb := hb.trans (hd.mono hb.size)
  replace b0 := cell_kept b0 hd
  replace b1 := cell_kept b1 hd
  replace b2 := cell_kept b2 hd
  replace p0 := cell_kept p0 hd
  replace p1 := cell_kept p1 hd
  replace p2 := cell_kept p2 hd
  replace p3 := cell_kept p3 hd
  replace VB := Lib.hid (VB.out.kept hd)
  replace VP := Lib.hid (VP.out.kept hd)
  replace HE := Lib.hid (HE.out.kept hd)
  clear hd
  clear HNS
  generalize b.fresh p = fr at *
  go_wp2_with fail
  refine (HBK.out _ HE.out).mono ?_
  rintro e w4 ⟨rfl, hd⟩
  replace hb := hb.trans (hd.mono hb.size)
  replace b0 := cell_kept b0 hd
  replace b1 := cell_kept b1 hd
  replace b2 := cell_kept b2 hd
  replace p0 := cell_kept p0 hd
  replace p1 := cell_kept p1 hd
  replace p2 := cell_kept p2 hd
  replace p3 := cell_kept p3 hd
  replace HX := Lib.hid (own_below HX.out hd)
  replace VB := Lib.hid (VB.out.kept hd)
  replace VP := Lib.hid (VP.out.kept hd)
  clear hd
  clear HBK HE
  cases hbl : bl with
  | false =>
    have HB := Lib.hid (HFU.out hbl)
    clear HFU HMI hbl HX
    by_cases e1 : fr.length < p.word.size
    · have HN : Hid (ans = true) := Lib.hid (by rw [HB.out, decide_eq_true e1]; rfl)
      clear HB HWF
      go_wp2
      go_ret
      exact ⟨ret_bool (by rw [HN.out] <;> (first | rfl | simp [*])), hb⟩
    · have e4 : decide (fr.length < p.word.size) = false := decide_eq_false e1
      have e5 : decide ((fr.length : Int) < (p.word.size : Int)) = false := decide_eq_false (by omega)
      have HN : Hid (ans = decide (1 < xs.length)) := Lib.hid (by rw [HB.out, e4, Bool.false_or])
      clear HB e1
      go_wp2_with fail
      refine (HWF.out _).mono ?_
      rintro e w5 ⟨g1, cx, rfl, hx0, hd⟩
      replace hb := hb.trans (hd.mono hb.size)
      clear hx0 hd b0 b1 b2 p0 p1 p2 p3
      go_wp2
      go_ret
      exact ⟨ret_bool (by rw [HN.out]; exact decide_eq_decide.2 (by omega)), hb⟩
  | true =>
    have HB := Lib.hid (HMI.out hbl)
    clear HFU HMI HWF hbl
    obtain ⟨m, hmm⟩ : ∃ m : Int, b.size / 2 = m := ⟨_, rfl⟩
    rw [hmm] at HB
    have hm15 : 0 ≤ m ∧ m ≤ 15 := by have := HBS.out; omega
    obtain ⟨f, hf⟩ : ∃ f : Nat → Bool, ∀ i, f i = decide (sqOf p i = (m, m)) := ⟨_, fun _ => rfl⟩
    have HAN : Hid (ans = fr.any f) := Lib.hid (by rw [← HB.out]; congr 1; funext i; rw [hf])
    have HF : Hid (∀ i, f i = (((sqOf p i).1 == m) && ((sqOf p i).2 == m))) := Lib.hid (fun i => by
      rw [hf, Bool.eq_iff_iff, decide_eq_true_eq, Bool.and_eq_true, beq_iff_eq, beq_iff_eq, Prod.ext_iff])
    clear HB hf
    go_upto_region 5 with fail
    clear b0 b1 b2 p0 p1 p2 p3 VB VP hmm
    have VM := Lib.hid (VarAt.new w4 73 [.int .i64 m, .int .i64 m])
    have hd : Below w4.heap.size w4 (w4.alloc (.cells #[.int .i64 m, .int .i64 m] 73)) := (Below.refl _ _).alloc (Nat.le_refl _) _
    have hz4 := hb.size
    have hgs := (HX.out.lt gs rfl).2
    replace hb := hb.trans (hd.mono hb.size)
    replace HX := Lib.hid (own_below HX.out hd)
    clear hd
    have HR : Hid (∀ k, k < fr.length → ∃ i : Nat, ((fr.take k).any f = false → f i = false → (fr.take (k + 1)).any f = false) ∧ (f i = true → ans = true) ∧ ∀ W : World, W.ownsRow w.heap.size 73 2 (.slice (some ⟨gs, 0, none⟩) fr.length cs) fr.length ((fr.map (sqOf p)).flatMap Sq.enc) → W.cell? ⟨gs, k * 2, none⟩ = some (.int .i64 (sqOf p i).1) ∧ W.cell? ⟨gs, k * 2 + 1, none⟩ = some (.int .i64 (sqOf p i).2)) := Lib.hid (fun k h => ⟨fr[k], any_take_succ h, fun e => by rw [HAN.out]; exact any_at h e, fun W hx => by
      have := row_sq hx (k := k) (by rw [List.length_map]; exact h)
      rwa [List.getElem_map] at this⟩)
    generalize hfrl : fr.length = fl at *
    have HFL := Lib.hid hfrl
    have hgw : w4.heap.size < (w4.alloc (.cells #[.int .i64 m, .int .i64 m] 73)).heap.size := by simp
    generalize w4.alloc (.cells #[.int .i64 m, .int .i64 m] 73) = w5 at *
    generalize w4.heap.size = gm at *
    clear hfrl
    go_wp2_with fail
    go_loopw [41] (fun iv wr => ∃ (k : Nat), k ≤ fl ∧ iv = .int .i64 k ∧ Hid ((fr.take k).any f = false) ∧ Hid (wr.ownsRow w.heap.size 73 2 (.slice (some ⟨gs, 0, none⟩) fl cs) fl ((fr.map (sqOf p)).flatMap Sq.enc)) ∧ Hid (VarAt wr gm 73 [.int .i64 m, .int .i64 m]) ∧ Below w.heap.size w wr) (fun iv _ => fl - (intOf iv).toNat)
    case atStart => exact ⟨0, Nat.zero_le _, rfl, Lib.hid (by simp), HX, VM, hb⟩
    case round =>
      clear HX VM hb hgs
      obtain ⟨k, hk, rfl, HA0, HX, VM, hb⟩ := hrel
      by_cases hkm : k < fl
      · obtain ⟨i, ht1, ht2, hrs⟩ := HR.out k hkm
        obtain ⟨x0, x1⟩ := hrs wr HX.out
        have HT1 := Lib.hid (ht1 HA0.out)
        have HT2 := Lib.hid ht2
        have HF1 := Lib.hid (HF.out i)
        clear ht1 ht2 hrs
        generalize sqOf p i = sq at *
        obtain ⟨s1, s2⟩ := sq
        simp only at x0 x1
        have HF1 : Hid (f i = ((s1 == m) && (s2 == m))) := HF1
        have VS := Lib.hid (VarAt.new wr 73 [.int .i64 s1, .int .i64 s2])
        have hd : Below wr.heap.size wr (wr.alloc (.cells #[.int .i64 s1, .int .i64 s2] 73)) := (Below.refl _ _).alloc (Nat.le_refl _) _
        have HX2 := Lib.hid (own_below HX.out hd)
        have VM2 := Lib.hid (VM.out.kept hd)
        have hb2 := hb.trans (hd.mono hb.size)
        clear hd
        go_upto_region 8 with fail
        clear x0 x1
        generalize wr.alloc (.cells #[.int .i64 s1, .int .i64 s2] 73) = w6 at *
        have m0 := VM2.out.cell (i := 0) rfl
        have m1 := VM2.out.cell (i := 1) rfl
        have s0 := VS.out.cell (i := 0) rfl
        have s3 := VS.out.cell (i := 1) rfl
        cases e1 : (s1 == m) <;> cases e2 : (s2 == m)
        case true.true =>
          have HN : Hid (ans = true) := Lib.hid (HT2.out (by rw [HF1.out, e1, e2]; rfl))
          clear HT1 HT2 HF1
          go_wp2
          go_ret
          exact ⟨ret_bool HN.out.symm, hb2⟩
        all_goals
          have HA7 := Lib.hid (HT1.out (by rw [HF1.out, e1, e2]; rfl))
          clear HT1 HT2 HF1 HX VM hb
          go_wp2
          go_roundw
          case rel => exact ⟨k + 1, by omega, by go_num, HA7, HX2, VM2, hb2⟩
          case measure => simp [intOf]; omega
      · obtain rfl : k = fl := by omega
        have HN : Hid (ans = false) := Lib.hid (by
          have := HA0.out
          rw [List.take_of_length_le (by rw [HFL.out]; exact Nat.le_refl _)] at this
          rw [HAN.out, this])
        go_wp2
        go_ret
        exact ⟨ret_bool HN.out.symm, hb⟩
set_option maxRecDepth 100000 in
set_option maxHeartbeats 2000000 in
theorem TouchesBoard_any (b : Brd) (p : Ply) (w : World) (hf : b.fit) (hs : p.word.size ≤ 1048576) (hE : CEnv w) (hL : EnvL w) :
    Calls Tryz.prog 16 #[.agg #[.int .i64 b.size, .string b.premium, .string b.cells], .agg #[.int .i64 p.row, .int .i64 p.col, .bool p.down, .string p.word]] w fun e w' => e = .returned (.bool (b.touchPlay p)) ∧ Below w.heap.size w w' := by
  obtain ⟨w2, hw2⟩ : ∃ w2, w2 = (w.alloc (.cells #[.int .i64 b.size, .string b.premium, .string b.cells] 25)).alloc (.cells #[.int .i64 p.row, .int .i64 p.col, .bool p.down, .string p.word] 30) := ⟨_, rfl⟩
  have hb : Below w.heap.size w w2 := by rw [hw2]; exact ((Below.refl _ _).alloc (Nat.le_refl _) _).alloc (by simp) _
  have VB : Hid (VarAt w2 w.heap.size 25 [.int .i64 b.size, .string b.premium, .string b.cells]) := by
    rw [hw2]
    exact Lib.hid ((VarAt.new w 25 [.int .i64 b.size, .string b.premium, .string b.cells]).kept ((Below.refl _ _).alloc (Nat.le_refl _) _))
  have VP : Hid (VarAt w2 (w.heap.size + 1) 30 [.int .i64 p.row, .int .i64 p.col, .bool p.down, .string p.word]) := by
    rw [hw2]
    have := VarAt.new (w.alloc (.cells #[.int .i64 b.size, .string b.premium, .string b.cells] 25)) 30 [.int .i64 p.row, .int .i64 p.col, .bool p.down, .string p.word]
    simp only [World.size_alloc] at this
    exact Lib.hid this
  have HE := Lib.hid (hE.kept hb)
  have HL := Lib.hid (hL.kept hb)
  have HW2 := Lib.hid hw2
  clear hw2 hE hL
  cases hk : b.okPlay p with
  | false =>
    have HN := Lib.hid (touchPlay_no hk)
    go_enter Tryz.func16, Tryz.ntmps16
    go_upto_region 1 with fail
    rw [← HW2.out]
    clear HW2
    have b0 := VB.out.cell (i := 0) rfl
    have b1 := VB.out.cell (i := 1) rfl
    have b2 := VB.out.cell (i := 2) rfl
    have c0 := VP.out.cell (i := 0) rfl
    have c1 := VP.out.cell (i := 1) rfl
    have c2 := VP.out.cell (i := 2) rfl
    have c3 := VP.out.cell (i := 3) rfl
    go_wp2_with fail
    refine (ValidPlay_any b p _ hf hs HE.out).mono ?_
    rintro e w3 ⟨rfl, hd⟩
    rw [hk]
    have hb2 := hb.trans (hd.mono hb.size)
    clear hd hk
    go_wp2
    go_ret
    exact ⟨ret_bool HN.out.symm, hb2⟩
  | true =>
    obtain ⟨n, hpg⟩ := okPlay_good hk
    have HTO : Hid (∀ W, EnvL W → Calls Tryz.prog 80 #[.agg #[.int .i64 b.size, .string b.premium, .string b.cells], .agg #[.int .i64 p.row, .int .i64 p.col, .bool p.down, .string p.word]] W fun e w' => e = .returned (.bool (b.touch p)) ∧ Below W.heap.size W w') := Lib.hid (fun W h => touches_any b p n W hpg h)
    have HN := Lib.hid (touchPlay_yes hk)
    clear hpg
    go_enter Tryz.func16, Tryz.ntmps16
    go_upto_region 1 with fail
    rw [← HW2.out]
    clear HW2
    have b0 := VB.out.cell (i := 0) rfl
    have b1 := VB.out.cell (i := 1) rfl
    have b2 := VB.out.cell (i := 2) rfl
    have c0 := VP.out.cell (i := 0) rfl
    have c1 := VP.out.cell (i := 1) rfl
    have c2 := VP.out.cell (i := 2) rfl
    have c3 := VP.out.cell (i := 3) rfl
    go_wp2_with fail
    refine (ValidPlay_any b p _ hf hs HE.out).mono ?_
    rintro e w3 ⟨rfl, hd⟩
    rw [hk]
    clear hk
    replace hb := hb.trans (hd.mono hb.size)
    replace b0 := cell_kept b0 hd
    replace b1 := cell_kept b1 hd
    replace b2 := cell_kept b2 hd
    replace c0 := cell_kept c0 hd
    replace c1 := cell_kept c1 hd
    replace c2 := cell_kept c2 hd
    replace c3 := cell_kept c3 hd
    replace HL := Lib.hid (HL.out.kept hd)
    clear hd
    go_wp2_with fail
    refine (HTO.out _ HL.out).mono ?_
    rintro e w4 ⟨rfl, hd⟩
    have hb2 := hb.trans (hd.mono hb.size)
    clear b0 b1 b2 c0 c1 c2 c3 hd hb VB VP
    go_wp2
    go_ret
    exact ⟨ret_bool HN.out.symm, hb2⟩
end Go.Proofs.YtjdcdhhbgijaoaaGreatDoor
namespace Go.Proofs.YtjdcdhhbgijaoaaGreatDoor
open Go.ChangeShapes Go.WideShapes Go.ChangeAt Go.RowKit Go.Sort

theorem own_natAt {t : TypeId} {w : World} {base g n cap : Nat} {l : List Nat} (h : w.ownsRow base t 1 (.slice (some ⟨g, 0, none⟩) n cap) n (l.flatMap N64.enc)) {i : Nat} (hi : i < n) (hl : n = l.length) : w.cell? ⟨g, i, none⟩ = some (.int .i64 ((l[i]'(by omega) : Nat) : Int)) := by
  have h1 := h.cellAt i (by omega)
  have h2 := flatMap_get (enc := N64.enc) (sz := 1) (fun _ => rfl) l (i := i) (by omega) (j := 0) (by omega)
  rw [Nat.mul_one, Nat.add_zero] at h2
  rw [h1, h2]
  rfl
/-- both boxes: a board and a play -/
theorem PGood.placed_let {b : Brd} {p : Ply} {n : Nat} (h : PGood b p n) : (placedB p.word (b.fresh p)).all (fun c => letB c.toNat) = true := by
  rw [List.all_eq_true]
  intro d hd
  unfold placedB at hd
  obtain ⟨i, hi, rfl⟩ := List.mem_map.1 hd
  have hl := (freshL_lt hi).1
  rw [u8_byte hl]
  exact (List.all_eq_true.1 h.letters) _ (by rw [← bytes_get p.word i hl]; exact List.getElem_mem _)
set_option maxRecDepth 100000 in
set_option maxHeartbeats 4000000 in
theorem placedTiles_any (b : Brd) (p : Ply) (n : Nat) (w : World) (hp : PGood b p n) :
    Calls Tryz.prog 118 #[.agg #[.int .i64 b.size, .string b.premium, .string b.cells], .agg #[.int .i64 p.row, .int .i64 p.col, .bool p.down, .string p.word]] w (StrPost w (srtL (b.tiles p))) := by
  obtain ⟨i0, hi0, hi1, hi2, hi3⟩ := info_parts infoByte
  have hs12 := hp.twelve
  have hfl : (b.fresh p).length ≤ p.word.size := freshL_len _ _ _ _
  have HNS : Hid (∀ W, Calls Tryz.prog 121 #[.agg #[.int .i64 b.size, .string b.premium, .string b.cells], .agg #[.int .i64 p.row, .int .i64 p.col, .bool p.down, .string p.word]] W (NewPost p (b.fresh p) W)) := Lib.hid (fun W => newSquares_any b p n W hp)
  have HTO : Hid (∀ W, Calls Tryz.prog 126 #[.string (mkB (placedB p.word (b.fresh p)))] W (StrPost W (srtL (b.tiles p)))) := Lib.hid (fun W => by
    have := tilesOf_any (mkB (placedB p.word (b.fresh p))) W (by rw [mkB_size, placedB_len]; omega) (by rw [mkB_data]; exact hp.placed_let)
    rw [mkB_data] at this
    exact this)
  have HLT : Hid (∀ k (h : k < (b.fresh p).length), (b.fresh p)[k] < p.word.size) := Lib.hid (fun k h => (freshL_lt (List.getElem_mem h)).1)
  obtain ⟨lt, hlt⟩ : ∃ lt : Nat → List UInt8, ∀ k, lt k = placedB p.word ((b.fresh p).take k) := ⟨_, fun _ => rfl⟩
  have HL0 : Hid (lt 0 = []) := Lib.hid (by rw [hlt]; rfl)
  have HLS : Hid (∀ k (h : k < (b.fresh p).length) (h2 : (b.fresh p)[k] < p.word.size), lt (k + 1) = lt k ++ [p.word[(b.fresh p)[k]]]) := Lib.hid (fun k h h2 => by rw [hlt, hlt]; exact placedB_take h h2)
  have HLE : Hid (lt (b.fresh p).length = placedB p.word (b.fresh p)) := Lib.hid (by rw [hlt, List.take_length])
  have HLN : Hid (∀ k, k ≤ (b.fresh p).length → (lt k).length = k) := Lib.hid (fun k h => by rw [hlt, placedB_len, List.length_take]; omega)
  rw [← HLE.out] at HTO
  clear hlt HLE hp
  obtain ⟨w2, hw2⟩ : ∃ w2, w2 = (w.alloc (.cells #[.int .i64 b.size, .string b.premium, .string b.cells] 25)).alloc (.cells #[.int .i64 p.row, .int .i64 p.col, .bool p.down, .string p.word] 30) := ⟨_, rfl⟩
  have hb : Below w.heap.size w w2 := by rw [hw2]; exact ((Below.refl _ _).alloc (Nat.le_refl _) _).alloc (by simp) _
  have hz2 : w.heap.size + 1 < w2.heap.size := by rw [hw2]; simp
  have VB : Hid (VarAt w2 w.heap.size 25 [.int .i64 b.size, .string b.premium, .string b.cells]) := by
    rw [hw2]
    exact Lib.hid ((VarAt.new w 25 [.int .i64 b.size, .string b.premium, .string b.cells]).kept ((Below.refl _ _).alloc (Nat.le_refl _) _))
  have VP : Hid (VarAt w2 (w.heap.size + 1) 30 [.int .i64 p.row, .int .i64 p.col, .bool p.down, .string p.word]) := by
    rw [hw2]
    have := VarAt.new (w.alloc (.cells #[.int .i64 b.size, .string b.premium, .string b.cells] 25)) 30 [.int .i64 p.row, .int .i64 p.col, .bool p.down, .string p.word]
    simp only [World.size_alloc] at this
    exact Lib.hid this
  have HW2 := Lib.hid hw2
  clear hw2
  generalize srtL (b.tiles p) = res at *
  generalize b.fresh p = fr at *
  go_enter Tryz.func118, Tryz.ntmps118
  go_upto_region 1 with fail
  rw [← HW2.out]
  clear HW2
  have b0 := VB.out.cell (i := 0) rfl
  have b1 := VB.out.cell (i := 1) rfl
  have b2 := VB.out.cell (i := 2) rfl
  have p0 := VP.out.cell (i := 0) rfl
  have p1 := VP.out.cell (i := 1) rfl
  have p2 := VP.out.cell (i := 2) rfl
  have p3 := VP.out.cell (i := 3) rfl
  go_wp2_with fail
  refine (HNS.out _).mono ?_
  rintro e w3 ⟨g1, c1, g2, c2, rfl, hne, hx, hxi, hd⟩
  have HF := Lib.hid hxi
  have hg2 := hxi.lt g2 rfl
  clear hne hx hxi b0 b1 b2 p0 p1 p2 p3 HNS VB
  replace hb := hb.trans (hd.mono hb.size)
  replace VP := Lib.hid (VP.out.kept hd)
  clear hd
  obtain ⟨w4, hw4⟩ : ∃ w4, w4 = w3.alloc (.cells #[] 5) := ⟨_, rfl⟩
  have hd3 : Below w3.heap.size w3 w4 := by rw [hw4]; exact (Below.refl _ _).alloc (Nat.le_refl _) _
  have HO : Hid (w4.ownsRow w3.heap.size 5 1 (.slice (some ⟨w3.heap.size, 0, none⟩) 0 0) 0 ((lt 0).flatMap U8.enc)) := Lib.hid (by
    rw [hw4, HL0.out]
    exact World.ownsRow_made (base := w3.heap.size) (e := 5) (size := 1) w3 #[] 0 (Nat.le_refl _) (by unfold maxLen; omega) rfl)
  have HFC : Hid (∀ k (h : k < fr.length), w4.cell? ⟨g2, k, none⟩ = some (.int .i64 ((fr[k] : Nat) : Int))) := Lib.hid (fun k h => cell_kept (own_natAt HF.out h rfl) hd3)
  have hz3 := VP.out.lt
  replace VP := Lib.hid (VP.out.kept hd3)
  have hBz : w3.heap.size ≤ w4.heap.size := hd3.size
  replace hb := hb.trans (hd3.mono hb.size)
  have HW4 := Lib.hid hw4
  clear hw4 hd3 HF HL0
  go_upto_region 4 with fail
  rw [← HW4.out]
  clear HW4
  have hg2B := hg2.2
  have hz2' : w.heap.size ≤ w3.heap.size := by omega
  clear hg2 hz2
  generalize w3.heap.size = B at *
  go_loopw [7, 19] (fun ov iv wr => ∃ (k g1 cap : Nat), k ≤ fr.length ∧ iv = .int .i64 k ∧ ov = .slice (some ⟨g1, 0, none⟩) k cap ∧ Hid (wr.ownsRow B 5 1 (.slice (some ⟨g1, 0, none⟩) k cap) k ((lt k).flatMap U8.enc)) ∧ Hid (VarAt wr (w.heap.size + 1) 30 [.int .i64 p.row, .int .i64 p.col, .bool p.down, .string p.word]) ∧ Hid (∀ k (h : k < fr.length), wr.cell? ⟨g2, k, none⟩ = some (.int .i64 ((fr[k] : Nat) : Int))) ∧ B ≤ wr.heap.size ∧ Below w.heap.size w wr) (fun _ iv _ => fr.length - (intOf iv).toNat)
  case atStart => exact ⟨0, _, 0, Nat.zero_le _, rfl, rfl, HO, VP, HFC, hBz, hb⟩
  case round =>
    clear HO VP HFC hb hBz
    obtain ⟨k, g1, cap, hk, rfl, rfl, HO, VP, HFC, hB, hb⟩ := hrel
    by_cases hk2 : k < fr.length
    · have hj := HLT.out k hk2
      have HS := Lib.hid (HLS.out k hk2 hj)
      have q0 := HFC.out k hk2
      generalize fr[k] = j at *
      have p3 := VP.out.cell (i := 3) rfl
      have hj2 : (0 : Int) ≤ (j : Int) ∧ (j : Int) < (p.word.size : Int) := by omega
      have hx : Below wr.heap.size wr (wr.alloc (.cells #[.int .u8 ((p.word[j].toNat : Int))] 5)) := (Below.refl _ _).alloc (Nat.le_refl _) _
      have KN := Lib.hid (new_byte wr (p.word[j]) 5)
      have HOX := Lib.hid (own_below HO.out hx)
      have VPX := Lib.hid (VP.out.kept hx)
      have HFX : Hid (∀ k (h : k < fr.length), (wr.alloc (.cells #[.int .u8 ((p.word[j].toNat : Int))] 5)).cell? ⟨g2, k, none⟩ = some (.int .i64 ((fr[k] : Nat) : Int))) := Lib.hid (fun k h => cell_kept (HFC.out k h) hx)
      have hbx := hb.trans (hx.mono hb.size)
      have hz9 := hb.size
      clear HO VP HFC hb hx
      go_wp2_with (at_builtin; go_must (refine wpList_append_lies _ rfl (.tmp 23) (.tmp 28) 22 rfl B 5 i0 _ 1 1 Tryz.underlying22 hi0 hi1 hi2 hi3 rfl (by decide) _ k ((lt k).flatMap U8.enc) (by rfl) HOX.out ⟨wr.heap.size, 0, none⟩ 1 1 (U8.enc (p.word[j])) (by rfl) rfl KN.out (u8_one1 (p.word[j])) (by decide) ?c1 ?c2 ?c3 _ rfl ?_))
      case c1 => unfold maxLen; omega
      case c2 => omega
      case c3 => (first | omega | (simp only [World.size_alloc]; omega))
      intro g7 cap7 w7 hown hgr hwh hlt7
      have hb7 := hbx.grown hgr hbx.size (fun q e => by have := (HOX.out.lt q e).1; omega)
      have HO7 : Hid (w7.ownsRow B 5 1 (.slice (some ⟨g7, 0, none⟩) (k + 1) cap7) (k + 1) ((lt (k + 1)).flatMap U8.enc)) := Lib.hid (by rw [HS.out, snoc_flat U8.enc]; exact hown)
      have VP7 := Lib.hid (VPX.out.grown hgr (own_ne HOX.out (by omega)))
      have HFC7 : Hid (∀ k (h : k < fr.length), w7.cell? ⟨g2, k, none⟩ = some (.int .i64 ((fr[k] : Nat) : Int))) := Lib.hid (fun k h => hgr.cell (HFX.out k h) (own_ne HOX.out (show g2 < B by omega)))
      have hB7 : B ≤ w7.heap.size := by have := hgr.size; simp only [World.size_alloc] at this; omega
      clear hown hgr hwh KN hlt7 HOX VPX HFX hbx p3 q0 HS
      go_wp2
      go_roundw
      case rel => exact ⟨k + 1, g7, cap7, by omega, by go_num, by go_num, HO7, VP7, HFC7, hB7, hb7⟩
      case measure => simp [intOf]; omega
    · obtain rfl : k = fr.length := by omega
      have hcv := own_bytes HO.out (HLN.out _ (Nat.le_refl _)).symm
      clear HO HLS
      go_wp2_with fail
      refine (HTO.out _).mono ?_
      rintro e w5 ⟨rfl, hd⟩
      replace hb := hb.trans (hd.mono hb.size)
      clear hd hcv
      go_wp2
      go_ret
      exact ⟨rfl, hb⟩
theorem rack_tiles {l : List UInt8} (h : rackOk l = true) : l.all tileB = true := by
  have h1 := (pileOk_iff.1 (rack_pile h).1).1
  rw [List.all_eq_true]
  intro c hc
  obtain ⟨j, hj, rfl⟩ := List.getElem_of_mem hc
  have := h1 j hj
  rwa [u8_at hj] at this
set_option maxRecDepth 100000 in
set_option maxHeartbeats 8000000 in
theorem legal_any (b : Brd) (p : Ply) (ws : List ByteArray) (rack : ByteArray) (a : Option Addr) (cap : Nat) (w : World) (hm : SliceAt w 1 Tx.enc a ws) (hok : b.ok = true) (hi : lexOk ws = true) (hr : rackOk rack.data.toList = true) (hs : p.word.size ≤ 1048576) (hE : CEnv w) (hL : EnvL w) :
    Calls Tryz.prog 73 #[.agg #[.int .i64 b.size, .string b.premium, .string b.cells], .agg #[.slice a ws.length cap], .string rack, .agg #[.int .i64 p.row, .int .i64 p.col, .bool p.down, .string p.word]] w fun e w' => e = .returned (.int .i64 (b.legal ws rack p)) ∧ Below w.heap.size w w' := by
  obtain ⟨n, hgd⟩ := Brd.good hok
  have HVO : Hid (∀ W, CEnv W → Calls Tryz.prog 125 #[.agg #[.int .i64 p.row, .int .i64 p.col, .bool p.down, .string p.word], .agg #[.int .i64 b.size, .string b.premium, .string b.cells]] W fun e w' => e = .returned (.bool (b.okPlay p)) ∧ Below W.heap.size W w') := Lib.hid (fun W h => validOn_any b p n W hgd hs h)
  clear hgd
  obtain ⟨w2, hw2⟩ : ∃ w2, w2 = ((w.alloc (.cells #[.int .i64 b.size, .string b.premium, .string b.cells] 25)).alloc (.cells #[.slice a ws.length cap] 28)).alloc (.cells #[.int .i64 p.row, .int .i64 p.col, .bool p.down, .string p.word] 30) := ⟨_, rfl⟩
  have hb : Below w.heap.size w w2 := by rw [hw2]; exact (((Below.refl _ _).alloc (Nat.le_refl _) _).alloc (by simp) _).alloc (by simp; omega) _
  have VB : Hid (VarAt w2 w.heap.size 25 [.int .i64 b.size, .string b.premium, .string b.cells]) := by
    rw [hw2]
    exact Lib.hid (((VarAt.new w 25 [.int .i64 b.size, .string b.premium, .string b.cells]).kept ((Below.refl _ _).alloc (Nat.le_refl _) _)).kept ((Below.refl _ _).alloc (Nat.le_refl _) _))
  have VL : Hid (VarAt w2 (w.heap.size + 1) 28 [.slice a ws.length cap]) := by
    rw [hw2]
    have := (VarAt.new (w.alloc (.cells #[.int .i64 b.size, .string b.premium, .string b.cells] 25)) 28 [.slice a ws.length cap]).kept ((Below.refl _ _).alloc (Nat.le_refl _) (.cells #[.int .i64 p.row, .int .i64 p.col, .bool p.down, .string p.word] 30))
    simp only [World.size_alloc] at this
    exact Lib.hid this
  have VP : Hid (VarAt w2 (w.heap.size + 2) 30 [.int .i64 p.row, .int .i64 p.col, .bool p.down, .string p.word]) := by
    rw [hw2]
    have := VarAt.new ((w.alloc (.cells #[.int .i64 b.size, .string b.premium, .string b.cells] 25)).alloc (.cells #[.slice a ws.length cap] 28)) 30 [.int .i64 p.row, .int .i64 p.col, .bool p.down, .string p.word]
    simp only [World.size_alloc] at this
    exact Lib.hid this
  have HM := Lib.hid (hm.kept hb)
  have HE := Lib.hid (hE.kept hb)
  have HL := Lib.hid (hL.kept hb)
  have HW2 := Lib.hid hw2
  clear hw2 hm hE hL
  cases hk : b.okPlay p with
  | false =>
    have HN := Lib.hid (legal_range (ws := ws) (rack := rack) hk)
    rw [hk] at HVO
    clear hk
    generalize b.legal ws rack p = ans at *
    go_enter Tryz.func73, Tryz.ntmps73
    go_upto_region 1 with fail
    rw [← HW2.out]
    clear HW2
    have b0 := VB.out.cell (i := 0) rfl
    have b1 := VB.out.cell (i := 1) rfl
    have b2 := VB.out.cell (i := 2) rfl
    have p0 := VP.out.cell (i := 0) rfl
    have p1 := VP.out.cell (i := 1) rfl
    have p2 := VP.out.cell (i := 2) rfl
    have p3 := VP.out.cell (i := 3) rfl
    go_wp2_with fail
    refine (HVO.out _ HE.out).mono ?_
    rintro e w3 ⟨rfl, hd⟩
    replace hb := hb.trans (hd.mono hb.size)
    clear hd b0 b1 b2 p0 p1 p2 p3
    go_wp2
    go_ret
    exact ⟨ret_int HN.out.symm, hb⟩
  | true =>
    obtain ⟨n, hp⟩ := okPlay_good hk
    have hrl : rack.size ≤ 7 := by
      have := (rack_pile hr).2
      simpa using this
    have hs12 := hp.twelve
    have hfl : (b.fresh p).length ≤ p.word.size := freshL_len _ _ _ _
    have htl : (b.tiles p).all tileB = true := List.all_eq_true.2 hp.tiles_ok
    have HHT : Hid (hasT rack.data.toList (srtL (b.tiles p)) = hasT rack.data.toList (b.tiles p)) := Lib.hid (has_congr fun k _ => cnt_perm (srt_perm htl) k)
    have hsl : (srtL (b.tiles p)).length ≤ 12 := by
      rw [srt_len htl]; unfold Brd.tiles; rw [List.length_map, placedB_len]; omega
    have hst : (srtL (b.tiles p)).all tileB = true := List.all_eq_true.2 fun c hc => pile_tiles _ 27 (Nat.le_refl _) c hc
    have HWO : Hid (∀ W, Calls Tryz.prog 165 #[.string rack, .string (mkB (srtL (b.tiles p)))] W fun e w' => ∃ t : ByteArray, e = .returned (.tuple #[.string t, .bool (hasT rack.data.toList (b.tiles p))]) ∧ Below W.heap.size W w') := Lib.hid (fun W => by
      have h3 := without_any rack (mkB (srtL (b.tiles p))) W (by omega) (by rw [mkB_size]; omega) (rack_tiles hr) (by rw [mkB_data]; exact hst)
      rw [mkB_data, HHT.out] at h3
      exact h3.mono fun e w' h => ⟨_, h⟩)
    have HLF := Lib.hid (legal_found (ws := ws) (rack := rack) hk)
    have HLS := Lib.hid (legal_state (ws := ws) (rack := rack) hk)
    have HLX := Lib.hid (legal_exists (ws := ws) (rack := rack) hk)
    have HLI := Lib.hid (legal_illegal (ws := ws) (rack := rack) hk)
    have HPT : Hid (∀ W, Calls Tryz.prog 118 #[.agg #[.int .i64 b.size, .string b.premium, .string b.cells], .agg #[.int .i64 p.row, .int .i64 p.col, .bool p.down, .string p.word]] W (StrPost W (srtL (b.tiles p)))) := Lib.hid (fun W => placedTiles_any b p n W hp)
    have HNS : Hid (∀ W, Calls Tryz.prog 121 #[.agg #[.int .i64 b.size, .string b.premium, .string b.cells], .agg #[.int .i64 p.row, .int .i64 p.col, .bool p.down, .string p.word]] W (NewPost p (b.fresh p) W)) := Lib.hid (fun W => newSquares_any b p n W hp)
    have HTC : Hid (∀ W, EnvL W → Calls Tryz.prog 80 #[.agg #[.int .i64 b.size, .string b.premium, .string b.cells], .agg #[.int .i64 p.row, .int .i64 p.col, .bool p.down, .string p.word]] W fun e w' => e = .returned (.bool (b.touch p)) ∧ Below W.heap.size W w') := Lib.hid (fun W h => touches_any b p n W hp h)
    have HWF : Hid (∀ W, Calls Tryz.prog 83 #[.agg #[.int .i64 b.size, .string b.premium, .string b.cells], .agg #[.int .i64 p.row, .int .i64 p.col, .bool p.down, .string p.word]] W (TextsPost W (b.words p))) := Lib.hid (fun W => wordsFormed_any b p n W hp)
    have HWR : Hid (∀ W, SliceAt W 1 Tx.enc a ws → Calls Tryz.prog 148 #[.agg #[.int .i64 b.size, .string b.premium, .string b.cells], .agg #[.slice a ws.length cap], .agg #[.int .i64 p.row, .int .i64 p.col, .bool p.down, .string p.word]] W (TextsPost W (wrongL ws (b.words p)))) := Lib.hid (fun W h => wrongWords_any b p n ws a cap W h hi hp)
    have HDB : Hid (b.double p = (p.down && (decide ((b.fresh p).length = 1) && decide (1 < (b.words p).length)))) := Lib.hid rfl
    have hxl := words_len hp
    have hwl : (wrongL ws (b.words p)).length ≤ 13 := Nat.le_trans (wrongL_len _ _) hxl
    rw [hk] at HVO
    clear hk hp hi hr htl hst HHT hsl
    generalize b.legal ws rack p = ans at *
    generalize wrongL ws (b.words p) = ys at *
    generalize b.words p = xs at *
    generalize b.double p = db at *
    generalize b.touch p = tc at *
    generalize srtL (b.tiles p) = st at *
    generalize hasT rack.data.toList (b.tiles p) = hv at *
    generalize b.fresh p = fr at *
    obtain ⟨r, c, d, s⟩ := p
    simp only at HPT HNS HTC HWF HWR HDB HVO VP HW2 hs12 hfl
    go_enter Tryz.func73, Tryz.ntmps73
    go_upto_region 1 with fail
    rw [← HW2.out]
    clear HW2
    have b0 := VB.out.cell (i := 0) rfl
    have b1 := VB.out.cell (i := 1) rfl
    have b2 := VB.out.cell (i := 2) rfl
    have p0 := VP.out.cell (i := 0) rfl
    have p1 := VP.out.cell (i := 1) rfl
    have p2 := VP.out.cell (i := 2) rfl
    have p3 := VP.out.cell (i := 3) rfl
    go_wp2_with fail
    refine (HVO.out _ HE.out).mono ?_
    rintro e w3 ⟨rfl, hd⟩
    replace hb := hb.trans (hd.mono hb.size)
    replace b0 := cell_kept b0 hd
    replace b1 := cell_kept b1 hd
    replace b2 := cell_kept b2 hd
    replace p0 := cell_kept p0 hd
    replace p1 := cell_kept p1 hd
    replace p2 := cell_kept p2 hd
    replace p3 := cell_kept p3 hd
    replace VL := Lib.hid (VL.out.kept hd)
    replace HM := Lib.hid (HM.out.kept hd)
    replace HL := Lib.hid (HL.out.kept hd)
    clear hd
    clear HVO HE VB VP
    go_wp2_with fail
    refine (HPT.out _).mono ?_
    rintro e w4 ⟨rfl, hd⟩
    replace hb := hb.trans (hd.mono hb.size)
    replace b0 := cell_kept b0 hd
    replace b1 := cell_kept b1 hd
    replace b2 := cell_kept b2 hd
    replace p0 := cell_kept p0 hd
    replace p1 := cell_kept p1 hd
    replace p2 := cell_kept p2 hd
    replace p3 := cell_kept p3 hd
    replace VL := Lib.hid (VL.out.kept hd)
    replace HM := Lib.hid (HM.out.kept hd)
    replace HL := Lib.hid (HL.out.kept hd)
    clear hd
    generalize mkB st = sb at *
    go_wp2_with fail
    refine (HWO.out _).mono ?_
    rintro e w5 ⟨t, rfl, hd⟩
    replace hb := hb.trans (hd.mono hb.size)
    replace b0 := cell_kept b0 hd
    replace b1 := cell_kept b1 hd
    replace b2 := cell_kept b2 hd
    replace p0 := cell_kept p0 hd
    replace p1 := cell_kept p1 hd
    replace p2 := cell_kept p2 hd
    replace p3 := cell_kept p3 hd
    replace VL := Lib.hid (VL.out.kept hd)
    replace HM := Lib.hid (HM.out.kept hd)
    replace HL := Lib.hid (HL.out.kept hd)
    clear hd
    clear HWO HPT
    cases hh : hv with
    | false =>
      have HN := Lib.hid (HLF.out hh)
      clear HLF HLS HLX HLI
      go_wp2
      go_ret
      exact ⟨ret_int HN.out.symm, hb⟩
    | true =>
      replace HLS := Lib.hid (HLS.out hh)
      replace HLX := Lib.hid (HLX.out hh)
      replace HLI := Lib.hid (HLI.out hh)
      clear HLF hh
      go_wp2_with fail
      refine (HNS.out _).mono ?_
      rintro e w6 ⟨gs, cs, gi, ci, rfl, hgg, hx, hxi, hd⟩
      clear hgg hx hxi
      replace hb := hb.trans (hd.mono hb.size)
      replace b0 := cell_kept b0 hd
      replace b1 := cell_kept b1 hd
      replace b2 := cell_kept b2 hd
      replace p0 := cell_kept p0 hd
      replace p1 := cell_kept p1 hd
      replace p2 := cell_kept p2 hd
      replace p3 := cell_kept p3 hd
      replace VL := Lib.hid (VL.out.kept hd)
      replace HM := Lib.hid (HM.out.kept hd)
      replace HL := Lib.hid (HL.out.kept hd)
      clear hd
      go_wp2_with fail
      refine (HTC.out _ HL.out).mono ?_
      rintro e w7 ⟨rfl, hd⟩
      replace hb := hb.trans (hd.mono hb.size)
      replace b0 := cell_kept b0 hd
      replace b1 := cell_kept b1 hd
      replace b2 := cell_kept b2 hd
      replace p0 := cell_kept p0 hd
      replace p1 := cell_kept p1 hd
      replace p2 := cell_kept p2 hd
      replace p3 := cell_kept p3 hd
      replace VL := Lib.hid (VL.out.kept hd)
      replace HM := Lib.hid (HM.out.kept hd)
      clear hd
      clear HTC HL HNS
      cases ht : tc with
      | false =>
        have HN := Lib.hid (HLS.out ht)
        clear HLS HLX HLI
        go_wp2
        go_ret
        exact ⟨ret_int HN.out.symm, hb⟩
      | true =>
        replace HLX := Lib.hid (HLX.out ht)
        replace HLI := Lib.hid (HLI.out ht)
        clear HLS ht
        have HTAIL : Hid (db = false → ans = if 0 < ys.length then 9 else 0) := Lib.hid HLI.out
        clear HLI
        have l0 := VL.out.cell (i := 0) rfl
        cases d with
        | false =>
          have HN := Lib.hid (HTAIL.out (by rw [HDB.out]; rfl))
          clear HTAIL HDB HLX HWF
          go_wp2_with fail
          refine (HWR.out _ HM.out).mono ?_
          rintro e w9 ⟨g3, cy, rfl, hx0, hd⟩
          replace hb := hb.trans (hd.mono hb.size)
          clear hx0 hd b0 b1 b2 p0 p1 p2 p3 l0
          by_cases h0 : 0 < ys.length
          · have HN2 : Hid (ans = 9) := Lib.hid (by rw [HN.out, if_pos h0])
            have h1 : (0 : Int) < (ys.length : Int) := by omega
            clear HN
            go_wp2
            go_ret
            exact ⟨ret_int HN2.out.symm, hb⟩
          · have HN2 : Hid (ans = 0) := Lib.hid (by rw [HN.out, if_neg h0])
            have h1 : ys.length = 0 := by omega
            rw [h1]
            clear HN
            go_wp2
            go_ret
            exact ⟨ret_int HN2.out.symm, hb⟩
        | true =>
          by_cases e1 : fr.length = 1
          · rw [e1]
            go_wp2_with fail
            refine (HWF.out _).mono ?_
            rintro e w8 ⟨g1, cx, rfl, hx0, hd⟩
            clear hx0
            replace hb := hb.trans (hd.mono hb.size)
            replace b0 := cell_kept b0 hd
            replace b1 := cell_kept b1 hd
            replace b2 := cell_kept b2 hd
            replace p0 := cell_kept p0 hd
            replace p1 := cell_kept p1 hd
            replace p2 := cell_kept p2 hd
            replace p3 := cell_kept p3 hd
            replace l0 := cell_kept l0 hd
            replace HM := Lib.hid (HM.out.kept hd)
            clear hd
            by_cases e2 : 1 < xs.length
            · have HN := Lib.hid (HLX.out (by rw [HDB.out, decide_eq_true e1, decide_eq_true e2]; rfl))
              have e3 : (1 : Int) < (xs.length : Int) := by omega
              clear HTAIL HDB HLX HWF HWR
              go_wp2
              go_ret
              exact ⟨ret_int HN.out.symm, hb⟩
            · have HN := Lib.hid (HTAIL.out (by rw [HDB.out, decide_eq_false e2, Bool.and_false, Bool.and_false]))
              have e3 : ¬ (1 : Int) < (xs.length : Int) := by omega
              clear HTAIL HDB HLX HWF
              go_wp2_with fail
              refine (HWR.out _ HM.out).mono ?_
              rintro e w9 ⟨g3, cy, rfl, hx0, hd⟩
              replace hb := hb.trans (hd.mono hb.size)
              clear hx0 hd b0 b1 b2 p0 p1 p2 p3 l0
              by_cases h0 : 0 < ys.length
              · have HN2 : Hid (ans = 9) := Lib.hid (by rw [HN.out, if_pos h0])
                have h1 : (0 : Int) < (ys.length : Int) := by omega
                clear HN
                go_wp2
                go_ret
                exact ⟨ret_int HN2.out.symm, hb⟩
              · have HN2 : Hid (ans = 0) := Lib.hid (by rw [HN.out, if_neg h0])
                have h1 : ys.length = 0 := by omega
                rw [h1]
                clear HN
                go_wp2
                go_ret
                exact ⟨ret_int HN2.out.symm, hb⟩
          · have e4 : ((fr.length : Int) == 1) = false := by rw [beq_eq_false_iff_ne]; omega
            have HN := Lib.hid (HTAIL.out (by rw [HDB.out, decide_eq_false e1, Bool.false_and, Bool.and_false]))
            clear HTAIL HDB HLX HWF e1
            go_wp2_with fail
            refine (HWR.out _ HM.out).mono ?_
            rintro e w9 ⟨g3, cy, rfl, hx0, hd⟩
            replace hb := hb.trans (hd.mono hb.size)
            clear hx0 hd b0 b1 b2 p0 p1 p2 p3 l0
            by_cases h0 : 0 < ys.length
            · have HN2 : Hid (ans = 9) := Lib.hid (by rw [HN.out, if_pos h0])
              have h1 : (0 : Int) < (ys.length : Int) := by omega
              clear HN
              go_wp2
              go_ret
              exact ⟨ret_int HN2.out.symm, hb⟩
            · have HN2 : Hid (ans = 0) := Lib.hid (by rw [HN.out, if_neg h0])
              have h1 : ys.length = 0 := by omega
              rw [h1]
              clear HN
              go_wp2
              go_ret
              exact ⟨ret_int HN2.out.symm, hb⟩
set_option maxRecDepth 100000 in
set_option maxHeartbeats 8000000 in
theorem LegalPlay_any (b : Brd) (p : Ply) (ws : List ByteArray) (rack : ByteArray) (a : Option Addr) (cap : Nat) (w : World) (hm : SliceAt w 1 Tx.enc a ws) (hf : b.fit) (hs : p.word.size ≤ 1048576) (hl : ws.length ≤ 9223372036854775807) (hwf : WordsFit ws) (hrs : rack.size ≤ 9223372036854775807) (hE : CEnv w) (hL : EnvL w) :
    Calls Tryz.prog 11 #[.agg #[.int .i64 b.size, .string b.premium, .string b.cells], .agg #[.slice a ws.length cap], .string rack, .agg #[.int .i64 p.row, .int .i64 p.col, .bool p.down, .string p.word]] w fun e w' => e = .returned (.int .i64 (b.legalPlay ws rack p)) ∧ Below w.heap.size w w' := by
  have HWF := Lib.hid hwf
  clear hwf
  obtain ⟨w2, hw2⟩ : ∃ w2, w2 = ((w.alloc (.cells #[.int .i64 b.size, .string b.premium, .string b.cells] 25)).alloc (.cells #[.slice a ws.length cap] 28)).alloc (.cells #[.int .i64 p.row, .int .i64 p.col, .bool p.down, .string p.word] 30) := ⟨_, rfl⟩
  have hb : Below w.heap.size w w2 := by rw [hw2]; exact (((Below.refl _ _).alloc (Nat.le_refl _) _).alloc (by simp) _).alloc (by simp; omega) _
  have VB : Hid (VarAt w2 w.heap.size 25 [.int .i64 b.size, .string b.premium, .string b.cells]) := by
    rw [hw2]
    exact Lib.hid (((VarAt.new w 25 [.int .i64 b.size, .string b.premium, .string b.cells]).kept ((Below.refl _ _).alloc (Nat.le_refl _) _)).kept ((Below.refl _ _).alloc (Nat.le_refl _) _))
  have VL : Hid (VarAt w2 (w.heap.size + 1) 28 [.slice a ws.length cap]) := by
    rw [hw2]
    have := (VarAt.new (w.alloc (.cells #[.int .i64 b.size, .string b.premium, .string b.cells] 25)) 28 [.slice a ws.length cap]).kept ((Below.refl _ _).alloc (Nat.le_refl _) (.cells #[.int .i64 p.row, .int .i64 p.col, .bool p.down, .string p.word] 30))
    simp only [World.size_alloc] at this
    exact Lib.hid this
  have VP : Hid (VarAt w2 (w.heap.size + 2) 30 [.int .i64 p.row, .int .i64 p.col, .bool p.down, .string p.word]) := by
    rw [hw2]
    have := VarAt.new ((w.alloc (.cells #[.int .i64 b.size, .string b.premium, .string b.cells] 25)).alloc (.cells #[.slice a ws.length cap] 28)) 30 [.int .i64 p.row, .int .i64 p.col, .bool p.down, .string p.word]
    simp only [World.size_alloc] at this
    exact Lib.hid this
  have HM := Lib.hid (hm.kept hb)
  have HE := Lib.hid (hE.kept hb)
  have HL := Lib.hid (hL.kept hb)
  have HW2 := Lib.hid hw2
  clear hw2 hm hE hL
  have HVB : Hid (∀ W, Calls Tryz.prog 70 #[.agg #[.int .i64 b.size, .string b.premium, .string b.cells]] W fun e w' => e = .returned (.bool b.ok) ∧ Below W.heap.size W w') := Lib.hid (fun W => ValidBoard_any b W hf)
  have HVL : Hid (∀ W, SliceAt W 1 Tx.enc a ws → Calls Tryz.prog 71 #[.agg #[.slice a ws.length cap]] W fun e w' => e = .returned (.bool (lexOk ws)) ∧ Below W.heap.size W w') := Lib.hid (fun W h => ValidLexicon_any ws a cap W h hl HWF.out)
  have HVR : Hid (∀ W, Calls Tryz.prog 72 #[.string rack] W fun e w' => e = .returned (.bool (rackOk rack.data.toList)) ∧ Drew W w') := Lib.hid (fun W => ValidRack_any rack W hrs)
  cases hk1 : b.ok with
  | false =>
    have HN : Hid (b.legalPlay ws rack p = 1) := Lib.hid (legalPlay_no (by rw [hk1]; rfl))
    generalize b.legalPlay ws rack p = ans at *
    rw [hk1] at HVB
    clear hk1
    go_enter Tryz.func11, Tryz.ntmps11
    go_upto_region 1 with fail
    rw [← HW2.out]
    clear HW2
    have b0 := VB.out.cell (i := 0) rfl
    have b1 := VB.out.cell (i := 1) rfl
    have b2 := VB.out.cell (i := 2) rfl
    go_wp2_with fail
    refine (HVB.out _).mono ?_
    rintro e w3 ⟨rfl, hd⟩
    replace hb := hb.trans (hd.mono hb.size)
    replace b0 := cell_kept b0 hd
    replace b1 := cell_kept b1 hd
    replace b2 := cell_kept b2 hd
    replace VL := Lib.hid (VL.out.kept hd)
    replace VP := Lib.hid (VP.out.kept hd)
    replace HM := Lib.hid (HM.out.kept hd)
    replace HE := Lib.hid (HE.out.kept hd)
    replace HL := Lib.hid (HL.out.kept hd)
    clear hd
    go_wp2
    go_ret
    exact ⟨ret_int HN.out.symm, hb⟩
  | true =>
    cases hk2 : lexOk ws with
    | false =>
      have HN : Hid (b.legalPlay ws rack p = 1) := Lib.hid (legalPlay_no (by rw [hk1, hk2]; rfl))
      generalize b.legalPlay ws rack p = ans at *
      rw [hk1] at HVB
      rw [hk2] at HVL
      clear hk1 hk2
      go_enter Tryz.func11, Tryz.ntmps11
      go_upto_region 1 with fail
      rw [← HW2.out]
      clear HW2
      have b0 := VB.out.cell (i := 0) rfl
      have b1 := VB.out.cell (i := 1) rfl
      have b2 := VB.out.cell (i := 2) rfl
      go_wp2_with fail
      refine (HVB.out _).mono ?_
      rintro e w3 ⟨rfl, hd⟩
      replace hb := hb.trans (hd.mono hb.size)
      replace b0 := cell_kept b0 hd
      replace b1 := cell_kept b1 hd
      replace b2 := cell_kept b2 hd
      replace VL := Lib.hid (VL.out.kept hd)
      replace VP := Lib.hid (VP.out.kept hd)
      replace HM := Lib.hid (HM.out.kept hd)
      replace HE := Lib.hid (HE.out.kept hd)
      replace HL := Lib.hid (HL.out.kept hd)
      clear hd
      have l0 := VL.out.cell (i := 0) rfl
      go_wp2_with fail
      refine (HVL.out _ HM.out).mono ?_
      rintro e w4 ⟨rfl, hd⟩
      replace hb := hb.trans (hd.mono hb.size)
      replace b0 := cell_kept b0 hd
      replace b1 := cell_kept b1 hd
      replace b2 := cell_kept b2 hd
      replace l0 := cell_kept l0 hd
      clear hd
      go_wp2
      go_ret
      exact ⟨ret_int HN.out.symm, hb⟩
    | true =>
      cases hk3 : rackOk rack.data.toList with
      | false =>
        have HN : Hid (b.legalPlay ws rack p = 1) := Lib.hid (legalPlay_no (by rw [hk1, hk2, hk3]; rfl))
        generalize b.legalPlay ws rack p = ans at *
        rw [hk1] at HVB
        rw [hk2] at HVL
        rw [hk3] at HVR
        clear hk1 hk2 hk3
        go_enter Tryz.func11, Tryz.ntmps11
        go_upto_region 1 with fail
        rw [← HW2.out]
        clear HW2
        have b0 := VB.out.cell (i := 0) rfl
        have b1 := VB.out.cell (i := 1) rfl
        have b2 := VB.out.cell (i := 2) rfl
        go_wp2_with fail
        refine (HVB.out _).mono ?_
        rintro e w3 ⟨rfl, hd⟩
        replace hb := hb.trans (hd.mono hb.size)
        replace b0 := cell_kept b0 hd
        replace b1 := cell_kept b1 hd
        replace b2 := cell_kept b2 hd
        replace VL := Lib.hid (VL.out.kept hd)
        replace VP := Lib.hid (VP.out.kept hd)
        replace HM := Lib.hid (HM.out.kept hd)
        replace HE := Lib.hid (HE.out.kept hd)
        replace HL := Lib.hid (HL.out.kept hd)
        clear hd
        have l0 := VL.out.cell (i := 0) rfl
        go_wp2_with fail
        refine (HVL.out _ HM.out).mono ?_
        rintro e w4 ⟨rfl, hd⟩
        replace hb := hb.trans (hd.mono hb.size)
        replace b0 := cell_kept b0 hd
        replace b1 := cell_kept b1 hd
        replace b2 := cell_kept b2 hd
        replace l0 := cell_kept l0 hd
        clear hd
        go_wp2_with fail
        refine (HVR.out _).mono ?_
        rintro e w5 ⟨rfl, hdq⟩
        have hd := hdq.bels
        clear hdq
        replace hb := hb.trans (hd.mono hb.size)
        replace b0 := cell_kept b0 hd
        replace b1 := cell_kept b1 hd
        replace b2 := cell_kept b2 hd
        replace l0 := cell_kept l0 hd
        clear hd
        go_wp2
        go_ret
        exact ⟨ret_int HN.out.symm, hb⟩
      | true =>
        have HN : Hid (b.legalPlay ws rack p = b.legal ws rack p) := Lib.hid (legalPlay_yes hk1 hk2 hk3)
        have HLG : Hid (∀ W, SliceAt W 1 Tx.enc a ws → CEnv W → EnvL W → Calls Tryz.prog 73 #[.agg #[.int .i64 b.size, .string b.premium, .string b.cells], .agg #[.slice a ws.length cap], .string rack, .agg #[.int .i64 p.row, .int .i64 p.col, .bool p.down, .string p.word]] W fun e w' => e = .returned (.int .i64 (b.legal ws rack p)) ∧ Below W.heap.size W w') := Lib.hid (fun W h1 h2 h3 => legal_any b p ws rack a cap W h1 hk1 hk2 hk3 hs h2 h3)
        rw [HN.out]
        clear HN
        generalize b.legal ws rack p = ans at *
        rw [hk1] at HVB
        rw [hk2] at HVL
        rw [hk3] at HVR
        clear hk1 hk2 hk3
        go_enter Tryz.func11, Tryz.ntmps11
        go_upto_region 1 with fail
        rw [← HW2.out]
        clear HW2
        have b0 := VB.out.cell (i := 0) rfl
        have b1 := VB.out.cell (i := 1) rfl
        have b2 := VB.out.cell (i := 2) rfl
        go_wp2_with fail
        refine (HVB.out _).mono ?_
        rintro e w3 ⟨rfl, hd⟩
        replace hb := hb.trans (hd.mono hb.size)
        replace b0 := cell_kept b0 hd
        replace b1 := cell_kept b1 hd
        replace b2 := cell_kept b2 hd
        replace VL := Lib.hid (VL.out.kept hd)
        replace VP := Lib.hid (VP.out.kept hd)
        replace HM := Lib.hid (HM.out.kept hd)
        replace HE := Lib.hid (HE.out.kept hd)
        replace HL := Lib.hid (HL.out.kept hd)
        clear hd
        have l0 := VL.out.cell (i := 0) rfl
        go_wp2_with fail
        refine (HVL.out _ HM.out).mono ?_
        rintro e w4 ⟨rfl, hd⟩
        replace hb := hb.trans (hd.mono hb.size)
        replace b0 := cell_kept b0 hd
        replace b1 := cell_kept b1 hd
        replace b2 := cell_kept b2 hd
        replace l0 := cell_kept l0 hd
        replace VP := Lib.hid (VP.out.kept hd)
        replace HM := Lib.hid (HM.out.kept hd)
        replace HE := Lib.hid (HE.out.kept hd)
        replace HL := Lib.hid (HL.out.kept hd)
        clear hd
        go_wp2_with fail
        refine (HVR.out _).mono ?_
        rintro e w5 ⟨rfl, hdq⟩
        have hd := hdq.bels
        clear hdq
        replace hb := hb.trans (hd.mono hb.size)
        replace b0 := cell_kept b0 hd
        replace b1 := cell_kept b1 hd
        replace b2 := cell_kept b2 hd
        replace l0 := cell_kept l0 hd
        replace VP := Lib.hid (VP.out.kept hd)
        replace HM := Lib.hid (HM.out.kept hd)
        replace HE := Lib.hid (HE.out.kept hd)
        replace HL := Lib.hid (HL.out.kept hd)
        clear hd
        have p0 := VP.out.cell (i := 0) rfl
        have p1 := VP.out.cell (i := 1) rfl
        have p2 := VP.out.cell (i := 2) rfl
        have p3 := VP.out.cell (i := 3) rfl
        go_wp2_with fail
        refine (HLG.out _ HM.out HE.out HL.out).mono ?_
        rintro e w6 ⟨rfl, hd⟩
        replace hb := hb.trans (hd.mono hb.size)
        clear hd
        go_wp2
        go_ret
        exact ⟨rfl, hb⟩
end Go.Proofs.YtjdcdhhbgijaoaaGreatDoor
