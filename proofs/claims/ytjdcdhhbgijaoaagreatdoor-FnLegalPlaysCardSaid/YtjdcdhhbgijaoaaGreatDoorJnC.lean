/- Contracts: the reference's words that a play forms and a lexicon does not have; its WrongW · Contracts: whether a lexicon has a word, whether a pile has a pile's tiles. For lists and  -/
import Derived.Test.YtjdcdhhbgijaoaaGreatDoorLex
import Derived.Test.YtjdcdhhbgijaoaaGreatDoorPlaD
import Derived.Test.YtjdcdhhbgijaoaaGreatDoorPlbH
import Derived.Test.YtjdcdhhbgijaoaaGreatDoorLgD
import Derived.Test.YtjdcdhhbgijaoaaGreatDoorLgA
namespace Go.Proofs.YtjdcdhhbgijaoaaGreatDoor
open Go.ChangeShapes Go.WideShapes Go.ChangeAt Go.RowKit Go.Sort

/-- the words of a list that a lexicon does not have -/
def wrongL (ws xs : List ByteArray) : List ByteArray := xs.filter fun x => !hasW ws x
theorem wrongL_yes {ws xs : List ByteArray} {x : ByteArray} (h : hasW ws x = true) : wrongL ws (xs ++ [x]) = wrongL ws xs := by
  unfold wrongL
  rw [List.filter_append, List.filter_cons, h]
  simp
theorem wrongL_no {ws xs : List ByteArray} {x : ByteArray} (h : hasW ws x = false) : wrongL ws (xs ++ [x]) = wrongL ws xs ++ [x] := by
  unfold wrongL
  rw [List.filter_append, List.filter_cons, h]
  simp
theorem wrongL_len (ws xs : List ByteArray) : (wrongL ws xs).length ≤ xs.length := List.length_filter_le _ _
theorem take_one {xs : List ByteArray} {k : Nat} (h : k < xs.length) {x : ByteArray} (hx : xs[k] = x) : xs.take (k + 1) = xs.take k ++ [x] := by
  rw [List.take_succ_eq_append_getElem h, hx]
theorem words_len {b : Brd} {p : Ply} {n : Nat} (h : PGood b p n) : (b.words p).length ≤ 13 := by
  have h0 := congrArg List.length (words_form b p)
  rw [List.length_map] at h0
  have h1 := formB_len (b.view p) p.r p.c p.word (b.fresh p)
  have h2 : (b.fresh p).length ≤ p.word.size := freshL_len _ _ _ _
  have h3 := h.twelve
  omega
/-- what WrongWords returns -/
def WrongPost (b : Brd) (p : Ply) (ws : List ByteArray) (w : World) (e : Ending) (w' : World) : Prop :=
  if lexOk ws && b.okPlay p then ∃ g cap, e = .returned (.tuple #[.slice (some ⟨g, 0, none⟩) (wrongL ws (b.words p)).length cap, .int .i64 0]) ∧ w'.ownsRow w.heap.size 9 1 (.slice (some ⟨g, 0, none⟩) (wrongL ws (b.words p)).length cap) (wrongL ws (b.words p)).length ((wrongL ws (b.words p)).flatMap Tx.enc) ∧ Below w.heap.size w w'
  else e = .returned (.tuple #[.slice none 0 0, .int .i64 1]) ∧ Below w.heap.size w w'
theorem wrong_no {b : Brd} {p : Ply} {ws : List ByteArray} {w : World} (h : (lexOk ws && b.okPlay p) = false) (e : Ending) (w' : World) (k : e = .returned (.tuple #[.slice none 0 0, .int .i64 1]) ∧ Below w.heap.size w w') : WrongPost b p ws w e w' := by
  unfold WrongPost
  rw [h]
  exact k
theorem wrong_yes {b : Brd} {p : Ply} {ws : List ByteArray} {w : World} (h1 : lexOk ws = true) (h2 : b.okPlay p = true) (e : Ending) (w' : World) (k : ∃ g cap, e = .returned (.tuple #[.slice (some ⟨g, 0, none⟩) (wrongL ws (b.words p)).length cap, .int .i64 0]) ∧ w'.ownsRow w.heap.size 9 1 (.slice (some ⟨g, 0, none⟩) (wrongL ws (b.words p)).length cap) (wrongL ws (b.words p)).length ((wrongL ws (b.words p)).flatMap Tx.enc) ∧ Below w.heap.size w w') : WrongPost b p ws w e w' := by
  unfold WrongPost
  rw [h1, h2]
  exact k
end Go.Proofs.YtjdcdhhbgijaoaaGreatDoor

namespace Go.Proofs.YtjdcdhhbgijaoaaGreatDoor
open Go.ChangeShapes Go.WideShapes Go.ChangeAt Go.RowKit Go.Sort

theorem first_ex (f : Nat → Bool) : ∀ n : Nat, ∃ k, k ≤ n ∧ (∀ t, t < k → f t = true) ∧ (k < n → f k = false)
  | 0 => ⟨0, Nat.le_refl _, fun t h => absurd h (Nat.not_lt_zero _), fun h => absurd h (Nat.lt_irrefl _)⟩
  | n + 1 => by
    obtain ⟨k, h1, h2, h3⟩ := first_ex f n
    by_cases hk : k < n
    · exact ⟨k, by omega, h2, fun _ => h3 hk⟩
    · cases hv : f n with
      | true => exact ⟨n + 1, Nat.le_refl _, fun t ht => by
          by_cases e : t = n
          · rw [e, hv]
          · exact h2 t (by omega), fun h => absurd h (by omega)⟩
      | false => exact ⟨n, by omega, fun t ht => h2 t (by omega), fun _ => hv⟩
theorem find_parts {ws : List ByteArray} {x : ByteArray} (h : lexOk ws = true) : findW ws x ≤ ws.length ∧ (∀ t, t < findW ws x → lessW ws x t = true) ∧ ∀ t, findW ws x ≤ t → t < ws.length → lessW ws x t = false := by
  have hi := inc_of_lex h
  obtain ⟨k, h1, h2, h3⟩ := first_ex (lessW ws x) ws.length
  have e := firstW_eq hi h1 h2 h3
  rw [e]
  refine ⟨h1, h2, fun t ht hn => ?_⟩
  by_cases e2 : t = k
  · rw [e2]; exact h3 (by omega)
  · obtain ⟨d, rfl⟩ : ∃ d, t = k + 1 + d := ⟨t - k - 1, by omega⟩
    have h4 := inc_mono hi (x := x) d k hn
    have h5 := h3 (by omega)
    unfold lessW at h5 ⊢
    rw [bytesLess_eq] at h5 ⊢
    rw [decide_eq_false_iff_not] at h5 ⊢
    exact fun h6 => h5 (List.lt_trans h4 h6)
theorem cmpIsNaN_any (x : ByteArray) (w : World) : Calls Tryz.prog 215 #[.string x] w fun e w' => e = .returned (.bool false) ∧ w = w' := by
  go_enter Tryz.func215, Tryz.ntmps215
  go_wp2
  go_ret
  exact ⟨by simp, rfl⟩
theorem slIsNaN_any (x : ByteArray) (w : World) : Calls Tryz.prog 272 #[.string x] w fun e w' => e = .returned (.bool false) ∧ w = w' := by
  go_enter Tryz.func272, Tryz.ntmps272
  go_wp2
  go_ret
  exact ⟨by simp, rfl⟩
theorem cmpLess_any (x y : ByteArray) (w : World) : Calls Tryz.prog 271 #[.string x, .string y] w fun e w' => e = .returned (.bool (Op.bytesLess x.toList y.toList)) ∧ w = w' := by
  go_enter Tryz.func271, Tryz.ntmps271
  go_wp2_with fail
  refine (cmpIsNaN_any x _).mono ?_
  rintro e w' ⟨rfl, rfl⟩
  go_wp2
  go_ret
  exact ⟨rfl, rfl⟩
set_option maxRecDepth 100000 in
set_option maxHeartbeats 4000000 in
theorem binarySearch_any (ws : List ByteArray) (a : Option Addr) (cap : Nat) (x : ByteArray) (w : World) (hm : SliceAt w 1 Tx.enc a ws) (hi : lexOk ws = true) :
    Calls Tryz.prog 230 #[.slice a ws.length cap, .string x] w fun e w' => e = .returned (.tuple #[.int .i64 (findW ws x : Nat), .bool (hasW ws x)]) ∧ Drew w w' := by
  have hl := len_of_lex hi
  obtain ⟨k1, k2, k3⟩ := find_parts (x := x) hi
  obtain ⟨K, hK⟩ : ∃ K, findW ws x = K := ⟨_, rfl⟩
  have HH := Lib.hid (findW_le hK)
  rw [hK] at k1 k2 k3 ⊢
  have HY := Lib.hid k2
  have HN := Lib.hid k3
  have HM := Lib.hid hm
  clear hm hi k2 k3 hK
  go_enter Tryz.func230, Tryz.ntmps230
  go_wp2_with fail
  go_loopw [7, 8] (fun lv hv wr => ∃ lo hi : Nat, lv = .int .i64 lo ∧ hv = .int .i64 hi ∧ lo ≤ K ∧ K ≤ hi ∧ hi ≤ ws.length ∧ Drew w wr) (fun lv hv _ => (intOf hv).toNat - (intOf lv).toNat)
  case atStart => exact ⟨0, ws.length, rfl, rfl, Nat.zero_le _, k1, Nat.le_refl _, Drew.refl _⟩
  case round =>
    obtain ⟨lo, hi, rfl, rfl, h1, h2, h3, hd⟩ := hrel
    by_cases hlt : lo < hi
    · obtain ⟨b, o, rfl, hc⟩ := (HM.out.drew hd).open (k := (lo + hi) / 2) (by omega)
      have c0 := words_cell hc (k := (lo + hi) / 2) (by omega)
      rw [getD_any (by omega) _ x] at c0
      have HLW : Hid (lessW ws x ((lo + hi) / 2) = Op.bytesLess (ws.getD ((lo + hi) / 2) x).toList x.toList) := Lib.hid rfl
      have hmm : ((lo : Int) + (hi : Int)) / 2 = (((lo + hi) / 2 : Nat) : Int) := by omega
      have HM2 := Lib.hid hmm
      clear hc hmm
      generalize ws.getD ((lo + hi) / 2) x = y at *
      cases hv : Op.bytesLess y.toList x.toList with
      | true =>
        have hK : (lo + hi) / 2 < K := by
          by_cases h : (lo + hi) / 2 < K
          · exact h
          · have e1 := HN.out ((lo + hi) / 2) (by omega) (by omega)
            rw [HLW.out, hv] at e1
            cases e1
        go_wp2_with fail
        refine (cmpLess_any y x _).mono ?_
        rintro e w' ⟨rfl, rfl⟩
        rw [hv]
        go_wp2
        go_roundw
        case rel => exact ⟨(lo + hi) / 2 + 1, hi, congrArg (Value.int IntKind.i64) (by omega), rfl, by omega, h2, h3, hd⟩
        case measure => (show (_ : Nat) < _); simp only [intOf]; omega
      | false =>
        have hK : K ≤ (lo + hi) / 2 := by
          by_cases h : K ≤ (lo + hi) / 2
          · exact h
          · have e1 := HY.out ((lo + hi) / 2) (by omega)
            rw [HLW.out, hv] at e1
            cases e1
        go_wp2_with fail
        refine (cmpLess_any y x _).mono ?_
        rintro e w' ⟨rfl, rfl⟩
        rw [hv]
        go_wp2
        go_roundw
        case rel => exact ⟨lo, (lo + hi) / 2, rfl, congrArg (Value.int IntKind.i64) (by omega), h1, hK, by omega, hd⟩
        case measure => (show (_ : Nat) < _); simp only [intOf]; omega
    · obtain rfl : lo = K := by omega
      obtain rfl : hi = lo := by omega
      by_cases hn : hi < ws.length
      · obtain ⟨b, o, rfl, hc⟩ := (HM.out.drew hd).open hn
        have c0 := words_cell hc hn
        rw [getD_any hn _ x] at c0
        have HE : Hid (hasW ws x = ((ws.getD hi x).toList == x.toList)) := Lib.hid (by rw [HH.out, str_dec, decide_eq_decide]; exact ⟨fun h => h.2, fun h => ⟨hn, h⟩⟩)
        clear hc HH HY HN
        generalize ws.getD hi x = y at *
        cases hv : (y.toList == x.toList) with
        | true =>
          rw [hv] at HE
          go_wp2
          go_ret2
          exact ⟨by rw [HE.out]; rfl, hd⟩
        | false =>
          rw [hv] at HE
          go_wp2_with fail
          refine (slIsNaN_any y _).mono ?_
          rintro e w' ⟨rfl, rfl⟩
          go_wp2
          go_ret2
          exact ⟨by rw [HE.out]; rfl, hd⟩
      · have HE : Hid (hasW ws x = false) := Lib.hid (by rw [HH.out]; exact decide_eq_false fun h => hn h.1)
        go_wp2
        go_ret2
        exact ⟨by rw [HE.out]; rfl, hd⟩
end Go.Proofs.YtjdcdhhbgijaoaaGreatDoor

namespace Go.Proofs.YtjdcdhhbgijaoaaGreatDoor
open Go.ChangeShapes Go.WideShapes Go.ChangeAt Go.RowKit Go.Sort

set_option maxHeartbeats 1000000 in
theorem has_any (ws : List ByteArray) (a : Option Addr) (cap : Nat) (x : ByteArray) (w : World) (hm : SliceAt w 1 Tx.enc a ws) (hi : lexOk ws = true) :
    Calls Tryz.prog 156 #[.agg #[.slice a ws.length cap], .string x] w fun e w' => e = .returned (.bool (hasW ws x)) ∧ Below w.heap.size w w' := by
  have hb : Below w.heap.size w (w.alloc (.cells #[.slice a ws.length cap] 28)) := (Below.refl _ _).alloc (Nat.le_refl _) _
  have VL := Lib.hid (VarAt.new w 28 [.slice a ws.length cap])
  have HM := Lib.hid (hm.kept hb)
  clear hm
  go_enter Tryz.func156, Tryz.ntmps156
  go_upto_region 1 with fail
  generalize w.alloc (.cells #[.slice a ws.length cap] 28) = w1 at *
  have l0 := VL.out.cell (i := 0) rfl
  go_wp2_with fail
  refine (binarySearch_any ws a cap x _ HM.out hi).mono ?_
  rintro e w3 ⟨rfl, hdq⟩
  have hd := hdq.bels
  replace hb := hb.trans (hd.mono hb.size)
  clear hd hdq l0
  go_wp2
  go_ret
  exact ⟨rfl, hb⟩
set_option maxHeartbeats 1000000 in
theorem wrongFn_any (ws : List ByteArray) (a : Option Addr) (cap lb : Nat) (x : ByteArray) (w : World) (hc : w.cell? ⟨lb, 0, none⟩ = some (.slice a ws.length cap)) (hm : SliceAt w 1 Tx.enc a ws) (hi : lexOk ws = true) :
    Calls Tryz.prog 227 #[.string x, .pointer (some ⟨lb, 0, none⟩)] w fun e w' => e = .returned (.bool (!hasW ws x)) ∧ Below w.heap.size w w' := by
  have HM := Lib.hid hm
  clear hm
  go_enter Tryz.func227, Tryz.ntmps227
  go_wp2_with fail
  refine (has_any ws a cap x _ HM.out hi).mono ?_
  rintro e w3 ⟨rfl, hd⟩
  go_wp2
  go_ret
  exact ⟨rfl, hd⟩
set_option maxRecDepth 100000 in
set_option maxHeartbeats 4000000 in
theorem selected_any (ws xs : List ByteArray) (a : Option Addr) (cap lb gx cx : Nat) (w : World) (hlc : w.cell? ⟨lb, 0, none⟩ = some (.slice a ws.length cap)) (hm : SliceAt w 1 Tx.enc a ws) (hi : lexOk ws = true) (hx : SliceAt w 1 Tx.enc (some ⟨gx, 0, none⟩) xs) (hxl : xs.length ≤ 13) :
    Calls Tryz.prog 226 #[.slice (some ⟨gx, 0, none⟩) xs.length cx, .func (.func 227) #[] #[.pointer (some ⟨lb, 0, none⟩)]] w (TextsPost w (wrongL ws xs)) := by
  obtain ⟨i0, hi0, hi1, hi2, hi3⟩ := info_parts infoTx
  have hd : Below w.heap.size w (w.alloc (.cells #[] 9)) := (Below.refl _ _).alloc (Nat.le_refl _) _
  have hb := hd
  have HLC := Lib.hid hlc
  have HM := Lib.hid hm
  have HX := Lib.hid hx
  have HHA : Hid (∀ x W, W.cell? ⟨lb, 0, none⟩ = some (.slice a ws.length cap) → SliceAt W 1 Tx.enc a ws → Calls Tryz.prog 227 #[.string x, .pointer (some ⟨lb, 0, none⟩)] W fun e w' => e = .returned (.bool (!hasW ws x)) ∧ Below W.heap.size W w') := Lib.hid (fun x W h1 h2 => wrongFn_any ws a cap lb x W h1 h2 hi)
  have HWY := Lib.hid (fun xs x h => wrongL_yes (ws := ws) (xs := xs) (x := x) h)
  have HWN := Lib.hid (fun xs x h => wrongL_no (ws := ws) (xs := xs) (x := x) h)
  have HWL := Lib.hid (fun xs => wrongL_len ws xs)
  have HW0 : Hid (wrongL ws [] = []) := Lib.hid rfl
  obtain ⟨has, hhas⟩ : ∃ has : ByteArray → Bool, ∀ x, has x = hasW ws x := ⟨_, fun _ => rfl⟩
  simp only [← hhas] at HHA HWY HWN
  clear hlc hm hx hi hhas
  generalize wrongL ws = wl at *
  have HR : Hid (∀ k, k < xs.length → ∃ x : ByteArray, xs.take (k + 1) = xs.take k ++ [x] ∧ ∀ W : World, SliceAt W 1 Tx.enc (some ⟨gx, 0, none⟩) xs → W.cell? ⟨gx, k, none⟩ = some (.string x)) := Lib.hid (fun k h => ⟨xs[k], take_one h rfl, fun W hx => by
    obtain ⟨bb, oo, he, hc⟩ := hx.open h
    obtain ⟨rfl, rfl⟩ : gx = bb ∧ 0 = oo := by simpa using he
    have := words_cell hc h
    rw [Nat.zero_add, getD_at h] at this
    exact this⟩)
  generalize hxsl : xs.length = m at *
  have HXL := Lib.hid hxsl
  clear hxsl
  have HO : Hid ((w.alloc (.cells #[] 9)).ownsRow w.heap.size 9 1 (.slice (some ⟨w.heap.size, 0, none⟩) (wl (xs.take 0)).length 0) (wl (xs.take 0)).length ((wl (xs.take 0)).flatMap Tx.enc)) := Lib.hid (by
    rw [List.take_zero, HW0.out]
    exact World.ownsRow_made (base := w.heap.size) (e := 9) (size := 1) w #[] 0 (Nat.le_refl _) (by unfold maxLen; omega) rfl)
  have hl0 : (wl (xs.take 0)).length = 0 := by rw [List.take_zero, HW0.out]; rfl
  clear hd
  go_enter Tryz.func226, Tryz.ntmps226
  go_wp2_with fail
  go_loopw [5, 11] (fun ov iv wr => ∃ (k g1 cp : Nat), k ≤ m ∧ iv = .int .i64 k ∧ ov = .slice (some ⟨g1, 0, none⟩) (wl (xs.take k)).length cp ∧ Hid (wr.ownsRow w.heap.size 9 1 (.slice (some ⟨g1, 0, none⟩) (wl (xs.take k)).length cp) (wl (xs.take k)).length ((wl (xs.take k)).flatMap Tx.enc)) ∧ Below w.heap.size w wr) (fun _ iv _ => m - (intOf iv).toNat)
  case atStart => exact ⟨0, _, 0, Nat.zero_le _, rfl, by rw [hl0], HO, hb⟩
  case round =>
    clear HO hb hl0
    obtain ⟨k, g1, cp, hk, rfl, rfl, HO, hb⟩ := hrel
    have hlk : (wl (xs.take k)).length ≤ k := by
      have h1 := HWL.out (xs.take k)
      have h2 : (xs.take k).length ≤ k := by rw [List.length_take]; omega
      omega
    by_cases hkm : k < m
    · obtain ⟨x, htk, hrx⟩ := HR.out k hkm
      have HTK := Lib.hid htk
      have cx0 := hrx wr (HX.out.kept hb)
      clear hrx htk
      have HY := Lib.hid (HWY.out (xs.take k) x)
      have HN := Lib.hid (HWN.out (xs.take k) x)
      rw [← HTK.out] at HY HN
      generalize wl (xs.take k) = ys at *
      have HC : Hid (∀ W, W.cell? ⟨lb, 0, none⟩ = some (.slice a ws.length cap) → SliceAt W 1 Tx.enc a ws → Calls Tryz.prog 227 #[.string x, .pointer (some ⟨lb, 0, none⟩)] W fun e w' => e = .returned (.bool (!has x)) ∧ Below W.heap.size W w') := Lib.hid (HHA.out x)
      cases hv : has x with
      | true =>
        have HE := Lib.hid (HY.out hv)
        rw [hv] at HC
        clear HY HN
        have HO7 : Hid (wr.ownsRow w.heap.size 9 1 (.slice (some ⟨g1, 0, none⟩) (wl (xs.take (k + 1))).length cp) (wl (xs.take (k + 1))).length ((wl (xs.take (k + 1))).flatMap Tx.enc)) := Lib.hid (by rw [HE.out]; exact HO.out)
        go_wp2_with fail
        refine (HC.out _ (cell_kept HLC.out hb) (HM.out.kept hb)).mono ?_
        rintro e wa ⟨rfl, hd⟩
        have HO8 := Lib.hid (own_below HO7.out hd)
        have hb8 := hb.trans (hd.mono hb.size)
        clear hd HO7 HO hb cx0
        go_wp2
        go_roundw
        case rel => exact ⟨k + 1, g1, cp, by omega, by go_num, by rw [HE.out], HO8, hb8⟩
        case measure => simp [intOf]; omega
      | false =>
        have HE := Lib.hid (HN.out hv)
        rw [hv] at HC
        clear HY HN
        generalize hys : ys.length = l at *
        go_wp2_with fail
        refine (HC.out _ (cell_kept HLC.out hb) (HM.out.kept hb)).mono ?_
        rintro e wa ⟨rfl, hd⟩
        replace HO := Lib.hid (own_below HO.out hd)
        replace hb := hb.trans (hd.mono hb.size)
        clear hd cx0
        have hx : Below wa.heap.size wa (wa.alloc (.cells #[.string x] 9)) := (Below.refl _ _).alloc (Nat.le_refl _) _
        have KN := Lib.hid (new_tx wa x 9)
        have hz3 := hb.size
        replace HO := Lib.hid (own_below HO.out hx)
        replace hb := hb.trans (hx.mono hb.size)
        clear hx
        go_wp2_with (at_builtin; go_must (refine wpList_append_lies _ rfl (.tmp 18) (.tmp 20) 26 rfl w.heap.size 9 i0 _ 1 16 Tryz.underlying26 hi0 hi1 hi2 hi3 rfl (by decide) _ l (ys.flatMap Tx.enc) (by rfl) HO.out ⟨wa.heap.size, 0, none⟩ 1 1 (Tx.enc x) (by rfl) rfl KN.out (tx_one x) (by decide) ?c1 ?c2 ?c3 _ rfl ?_))
        case c1 => unfold maxLen; omega
        case c2 => omega
        case c3 => (first | omega | (simp only [World.size_alloc]; omega))
        intro g7 cap7 w7 hown hgr hwh hlt7
        have hb7 := hb.grown hgr hb.size (fun q e => by have := (HO.out.lt q e).1; omega)
        have HLE : Hid ((wl (xs.take (k + 1))).length = l + 1) := Lib.hid (by rw [HE.out, List.length_append, hys]; rfl)
        have HO7 : Hid (w7.ownsRow w.heap.size 9 1 (.slice (some ⟨g7, 0, none⟩) (wl (xs.take (k + 1))).length cap7) (wl (xs.take (k + 1))).length ((wl (xs.take (k + 1))).flatMap Tx.enc)) := Lib.hid (by
          rw [HLE.out, HE.out, snoc_flat Tx.enc]; exact hown)
        clear hown hgr hwh KN HO hb
        go_wp2
        go_roundw
        case rel => exact ⟨k + 1, g7, cap7, by omega, by go_num, by rw [HLE.out], HO7, hb7⟩
        case measure => simp [intOf]; omega
    · obtain rfl : k = m := by omega
      have hO := HO.out
      rw [List.take_of_length_le (by rw [HXL.out]; exact Nat.le_refl _)] at hO
      have HON := Lib.hid hO
      clear hO HO
      have HEQ : Hid (xs.take k = xs) := Lib.hid (List.take_of_length_le (by rw [HXL.out]; exact Nat.le_refl _))
      rw [HEQ.out]
      clear HEQ
      go_wp2
      go_ret
      exact ⟨g1, cp, rfl, HON.out, hb⟩
set_option maxRecDepth 100000 in
set_option maxHeartbeats 4000000 in
theorem wrongWords_any (b : Brd) (p : Ply) (n : Nat) (ws : List ByteArray) (a : Option Addr) (cap : Nat) (w : World) (hm : SliceAt w 1 Tx.enc a ws) (hi : lexOk ws = true) (hp : PGood b p n) :
    Calls Tryz.prog 148 #[.agg #[.int .i64 b.size, .string b.premium, .string b.cells], .agg #[.slice a ws.length cap], .agg #[.int .i64 p.row, .int .i64 p.col, .bool p.down, .string p.word]] w (TextsPost w (wrongL ws (b.words p))) := by
  obtain ⟨w2, hw2⟩ : ∃ w2, w2 = ((w.alloc (.cells #[.int .i64 b.size, .string b.premium, .string b.cells] 25)).alloc (.cells #[.slice a ws.length cap] 28)).alloc (.cells #[.int .i64 p.row, .int .i64 p.col, .bool p.down, .string p.word] 30) := ⟨_, rfl⟩
  have hb : Below w.heap.size w w2 := by rw [hw2]; exact (((Below.refl _ _).alloc (Nat.le_refl _) _).alloc (by simp) _).alloc (by simp; omega) _
  have hz2 : w.heap.size + 2 < w2.heap.size := by rw [hw2]; simp
  have VB : Hid (VarAt w2 w.heap.size 25 [.int .i64 b.size, .string b.premium, .string b.cells]) := by
    rw [hw2]
    exact Lib.hid (((VarAt.new w 25 [.int .i64 b.size, .string b.premium, .string b.cells]).kept ((Below.refl _ _).alloc (Nat.le_refl _) _)).kept ((Below.refl _ _).alloc (Nat.le_refl _) _))
  have VL : Hid (VarAt w2 (w.heap.size + 1) 28 [.slice a ws.length cap]) := by
    rw [hw2]
    have := (VarAt.new (w.alloc (.cells #[.int .i64 b.size, .string b.premium, .string b.cells] 25)) 28 [.slice a ws.length cap]).kept ((Below.refl _ _).alloc (Nat.le_refl _) (.cells #[.int .i64 p.row, .int .i64 p.col, .bool p.down, .string p.word] 30))
    simp only [World.size_alloc] at this
    exact Lib.hid this
  have VP : Hid (VarAt w2 (w.heap.size + 2) 30 [.int .i64 p.row, .int .i64 p.col, .bool p.down, .string p.word]) := by
    rw [hw2]
    have := VarAt.new ((w.alloc (.cells #[.int .i64 b.size, .string b.premium, .string b.cells] 25)).alloc (.cells #[.slice a ws.length cap] 28)) 30 [.int .i64 p.row, .int .i64 p.col, .bool p.down, .string p.word]
    simp only [World.size_alloc] at this
    exact Lib.hid this
  have HM := Lib.hid (hm.kept hb)
  have HW2 := Lib.hid hw2
  have hxl := words_len hp
  have HWF : Hid (∀ W, Calls Tryz.prog 83 #[.agg #[.int .i64 b.size, .string b.premium, .string b.cells], .agg #[.int .i64 p.row, .int .i64 p.col, .bool p.down, .string p.word]] W (TextsPost W (b.words p))) := Lib.hid (fun W => wordsFormed_any b p n W hp)
  have HSE : Hid (∀ gx cx W, W.cell? ⟨w.heap.size + 1, 0, none⟩ = some (.slice a ws.length cap) → SliceAt W 1 Tx.enc a ws → SliceAt W 1 Tx.enc (some ⟨gx, 0, none⟩) (b.words p) → Calls Tryz.prog 226 #[.slice (some ⟨gx, 0, none⟩) (b.words p).length cx, .func (.func 227) #[] #[.pointer (some ⟨w.heap.size + 1, 0, none⟩)]] W (TextsPost W (wrongL ws (b.words p)))) := Lib.hid (fun gx cx W h1 h2 h3 => selected_any ws (b.words p) a cap _ gx cx W h1 h2 hi h3 hxl)
  clear hw2 hm hi hp hxl
  generalize wrongL ws (b.words p) = ys at *
  generalize b.words p = xs at *
  go_enter Tryz.func148, Tryz.ntmps148
  go_upto_region 1 with fail
  rw [← HW2.out]
  clear HW2
  have b0 := VB.out.cell (i := 0) rfl
  have b1 := VB.out.cell (i := 1) rfl
  have b2 := VB.out.cell (i := 2) rfl
  have p0 := VP.out.cell (i := 0) rfl
  have p1 := VP.out.cell (i := 1) rfl
  have p2 := VP.out.cell (i := 2) rfl
  have p3 := VP.out.cell (i := 3) rfl
  go_wp2_with fail
  refine (HWF.out _).mono ?_
  rintro e w3 ⟨gx, cx, rfl, hx, hd⟩
  have HX := Lib.hid (own_slice Tx.enc_len hx rfl)
  clear hx b0 b1 b2 p0 p1 p2 p3 VB VP
  replace hb := hb.trans (hd.mono hb.size)
  replace VL := Lib.hid (VL.out.kept hd)
  replace HM := Lib.hid (HM.out.kept hd)
  clear hd
  generalize hxsl : xs.length = m at *
  have hz := hb.size
  go_wp2_with fail
  refine (HSE.out gx cx _ (VL.out.cell (i := 0) rfl) HM.out HX.out).mono ?_
  rintro e w4 ⟨g1, c1, rfl, hown, hd⟩
  have HO := Lib.hid (own_mono hown (show w.heap.size ≤ _ by omega))
  replace hb := hb.trans (hd.mono hb.size)
  clear hd hown
  go_wp2
  go_ret
  exact ⟨g1, c1, rfl, HO.out, hb⟩
set_option maxRecDepth 100000 in
set_option maxHeartbeats 4000000 in
theorem WrongWords_any (b : Brd) (p : Ply) (ws : List ByteArray) (a : Option Addr) (cap : Nat) (w : World) (hm : SliceAt w 1 Tx.enc a ws) (hf : b.fit) (hs : p.word.size ≤ 1048576) (hl : ws.length ≤ 9223372036854775807) (hwf : WordsFit ws) (hE : CEnv w) :
    Calls Tryz.prog 61 #[.agg #[.int .i64 b.size, .string b.premium, .string b.cells], .agg #[.slice a ws.length cap], .agg #[.int .i64 p.row, .int .i64 p.col, .bool p.down, .string p.word]] w (WrongPost b p ws w) := by
  obtain ⟨w2, hw2⟩ : ∃ w2, w2 = ((w.alloc (.cells #[.int .i64 b.size, .string b.premium, .string b.cells] 25)).alloc (.cells #[.slice a ws.length cap] 28)).alloc (.cells #[.int .i64 p.row, .int .i64 p.col, .bool p.down, .string p.word] 30) := ⟨_, rfl⟩
  have hb : Below w.heap.size w w2 := by rw [hw2]; exact (((Below.refl _ _).alloc (Nat.le_refl _) _).alloc (by simp) _).alloc (by simp; omega) _
  have hz2 : w.heap.size + 2 < w2.heap.size := by rw [hw2]; simp
  have VB : Hid (VarAt w2 w.heap.size 25 [.int .i64 b.size, .string b.premium, .string b.cells]) := by
    rw [hw2]
    exact Lib.hid (((VarAt.new w 25 [.int .i64 b.size, .string b.premium, .string b.cells]).kept ((Below.refl _ _).alloc (Nat.le_refl _) _)).kept ((Below.refl _ _).alloc (Nat.le_refl _) _))
  have VL : Hid (VarAt w2 (w.heap.size + 1) 28 [.slice a ws.length cap]) := by
    rw [hw2]
    have := (VarAt.new (w.alloc (.cells #[.int .i64 b.size, .string b.premium, .string b.cells] 25)) 28 [.slice a ws.length cap]).kept ((Below.refl _ _).alloc (Nat.le_refl _) (.cells #[.int .i64 p.row, .int .i64 p.col, .bool p.down, .string p.word] 30))
    simp only [World.size_alloc] at this
    exact Lib.hid this
  have VP : Hid (VarAt w2 (w.heap.size + 2) 30 [.int .i64 p.row, .int .i64 p.col, .bool p.down, .string p.word]) := by
    rw [hw2]
    have := VarAt.new ((w.alloc (.cells #[.int .i64 b.size, .string b.premium, .string b.cells] 25)).alloc (.cells #[.slice a ws.length cap] 28)) 30 [.int .i64 p.row, .int .i64 p.col, .bool p.down, .string p.word]
    simp only [World.size_alloc] at this
    exact Lib.hid this
  have HM := Lib.hid (hm.kept hb)
  have HW2 := Lib.hid hw2
  have HE := Lib.hid (hE.kept hb)
  have HWF := Lib.hid hwf
  clear hw2 hm hwf hE
  have HVL : Hid (∀ W, SliceAt W 1 Tx.enc a ws → Calls Tryz.prog 71 #[.agg #[.slice a ws.length cap]] W fun e w' => e = .returned (.bool (lexOk ws)) ∧ Below W.heap.size W w') := Lib.hid (fun W h => ValidLexicon_any ws a cap W h hl HWF.out)
  cases hk : b.okPlay p with
  | false =>
    refine Calls.mono (R := fun e w' => e = .returned (.tuple #[.slice none 0 0, .int .i64 1]) ∧ Below w.heap.size w w') ?_ (wrong_no (by rw [hk, Bool.and_false]))
    go_enter Tryz.func61, Tryz.ntmps61
    go_upto_region 1 with fail
    rw [← HW2.out]
    clear HW2
    have b0 := VB.out.cell (i := 0) rfl
    have b1 := VB.out.cell (i := 1) rfl
    have b2 := VB.out.cell (i := 2) rfl
    have p0 := VP.out.cell (i := 0) rfl
    have p1 := VP.out.cell (i := 1) rfl
    have p2 := VP.out.cell (i := 2) rfl
    have p3 := VP.out.cell (i := 3) rfl
    go_wp2_with fail
    refine (ValidPlay_any b p _ hf hs HE.out).mono ?_
    rintro e w3 ⟨rfl, hd⟩
    rw [hk]
    have hb2 := hb.trans (hd.mono hb.size)
    clear hd hk
    go_wp2
    go_ret2
    exact ⟨rfl, hb2⟩
  | true =>
    cases hlx : lexOk ws with
    | false =>
      refine Calls.mono (R := fun e w' => e = .returned (.tuple #[.slice none 0 0, .int .i64 1]) ∧ Below w.heap.size w w') ?_ (wrong_no (by rw [hlx]; rfl))
      rw [hlx] at HVL
      go_enter Tryz.func61, Tryz.ntmps61
      go_upto_region 1 with fail
      rw [← HW2.out]
      clear HW2 hlx
      have b0 := VB.out.cell (i := 0) rfl
      have b1 := VB.out.cell (i := 1) rfl
      have b2 := VB.out.cell (i := 2) rfl
      have p0 := VP.out.cell (i := 0) rfl
      have p1 := VP.out.cell (i := 1) rfl
      have p2 := VP.out.cell (i := 2) rfl
      have p3 := VP.out.cell (i := 3) rfl
      go_wp2_with fail
      refine (ValidPlay_any b p _ hf hs HE.out).mono ?_
      rintro e w3 ⟨rfl, hd⟩
      rw [hk]
      clear hk b0 b1 b2 p0 p1 p2 p3
      replace hb := hb.trans (hd.mono hb.size)
      replace VL := Lib.hid (VL.out.kept hd)
      replace HM := Lib.hid (HM.out.kept hd)
      clear hd
      have l0 := VL.out.cell (i := 0) rfl
      go_wp2_with fail
      refine (HVL.out _ HM.out).mono ?_
      rintro e w4 ⟨rfl, hd⟩
      have hb2 := hb.trans (hd.mono hb.size)
      clear hd l0
      go_wp2
      go_ret2
      exact ⟨rfl, hb2⟩
    | true =>
      obtain ⟨n, hpg⟩ := okPlay_good hk
      have HWR : Hid (∀ W, SliceAt W 1 Tx.enc a ws → Calls Tryz.prog 148 #[.agg #[.int .i64 b.size, .string b.premium, .string b.cells], .agg #[.slice a ws.length cap], .agg #[.int .i64 p.row, .int .i64 p.col, .bool p.down, .string p.word]] W (TextsPost W (wrongL ws (b.words p)))) := Lib.hid (fun W h => wrongWords_any b p n ws a cap W h hlx hpg)
      clear hpg
      refine Calls.mono (R := fun e w' => ∃ g cap, e = .returned (.tuple #[.slice (some ⟨g, 0, none⟩) (wrongL ws (b.words p)).length cap, .int .i64 0]) ∧ w'.ownsRow w.heap.size 9 1 (.slice (some ⟨g, 0, none⟩) (wrongL ws (b.words p)).length cap) (wrongL ws (b.words p)).length ((wrongL ws (b.words p)).flatMap Tx.enc) ∧ Below w.heap.size w w') ?_ (wrong_yes hlx hk)
      rw [hlx] at HVL
      generalize wrongL ws (b.words p) = xs at *
      go_enter Tryz.func61, Tryz.ntmps61
      go_upto_region 1 with fail
      rw [← HW2.out]
      clear HW2 hlx
      have b0 := VB.out.cell (i := 0) rfl
      have b1 := VB.out.cell (i := 1) rfl
      have b2 := VB.out.cell (i := 2) rfl
      have p0 := VP.out.cell (i := 0) rfl
      have p1 := VP.out.cell (i := 1) rfl
      have p2 := VP.out.cell (i := 2) rfl
      have p3 := VP.out.cell (i := 3) rfl
      go_wp2_with fail
      refine (ValidPlay_any b p _ hf hs HE.out).mono ?_
      rintro e w3 ⟨rfl, hd⟩
      rw [hk]
      clear hk b0 b1 b2 p0 p1 p2 p3
      replace hb := hb.trans (hd.mono hb.size)
      replace VL := Lib.hid (VL.out.kept hd)
      replace HM := Lib.hid (HM.out.kept hd)
      replace VB := Lib.hid (VB.out.kept hd)
      replace VP := Lib.hid (VP.out.kept hd)
      clear hd
      have l0 := VL.out.cell (i := 0) rfl
      go_wp2_with fail
      refine (HVL.out _ HM.out).mono ?_
      rintro e w4 ⟨rfl, hd⟩
      replace hb := hb.trans (hd.mono hb.size)
      replace l0 := cell_kept l0 hd
      replace HM := Lib.hid (HM.out.kept hd)
      replace VB := Lib.hid (VB.out.kept hd)
      replace VP := Lib.hid (VP.out.kept hd)
      clear hd
      have b0 := VB.out.cell (i := 0) rfl
      have b1 := VB.out.cell (i := 1) rfl
      have b2 := VB.out.cell (i := 2) rfl
      have p0 := VP.out.cell (i := 0) rfl
      have p1 := VP.out.cell (i := 1) rfl
      have p2 := VP.out.cell (i := 2) rfl
      have p3 := VP.out.cell (i := 3) rfl
      have hz := hb.size
      go_wp2_with fail
      refine (HWR.out _ HM.out).mono ?_
      rintro e w5 ⟨g1, cap1, rfl, hown, hd⟩
      have HO := Lib.hid (own_mono hown (show w.heap.size ≤ _ by omega))
      have hb2 := hb.trans (hd.mono hb.size)
      clear hown hd b0 b1 b2 p0 p1 p2 p3 l0
      go_wp2
      go_ret2
      exact ⟨g1, cap1, rfl, HO.out, hb2⟩
end Go.Proofs.YtjdcdhhbgijaoaaGreatDoor
namespace Go.Proofs.YtjdcdhhbgijaoaaGreatDoor
open Go.ChangeShapes Go.WideShapes Go.ChangeAt Go.RowKit Go.Sort

theorem HasWord_any (ws : List ByteArray) (a : Option Addr) (cap : Nat) (x : ByteArray) (w : World) (hm : SliceAt w 1 Tx.enc a ws) (hl : ws.length ≤ 9223372036854775807) (hwf : WordsFit ws) :
    Calls Tryz.prog 67 #[.agg #[.slice a ws.length cap], .string x] w fun e w' => e = .returned (.bool (lexOk ws && hasW ws x)) ∧ Below w.heap.size w w' := by
  have hb : Below w.heap.size w (w.alloc (.cells #[.slice a ws.length cap] 28)) := (Below.refl _ _).alloc (Nat.le_refl _) _
  have VL := Lib.hid (VarAt.new w 28 [.slice a ws.length cap])
  have HM := Lib.hid hm
  have HV := Lib.hid (fun W h => ValidLexicon_any ws a cap W h hl hwf)
  have HH := Lib.hid (fun W h1 h2 => has_any ws a cap x W h1 h2)
  clear hm
  go_enter Tryz.func67, Tryz.ntmps67
  go_upto_region 1 with fail
  generalize w.alloc (.cells #[.slice a ws.length cap] 28) = w1 at *
  have c0 := VL.out.cell (i := 0) rfl
  go_wp2_with fail
  refine (HV.out _ (HM.out.kept hb)).mono ?_
  rintro e w3 ⟨rfl, hd⟩
  replace VL := Lib.hid (VL.out.kept hd)
  replace hb := hb.trans (hd.mono hb.size)
  clear hd c0 HV
  cases hk : lexOk ws with
  | false =>
    go_wp2
    go_ret
    exact ⟨ret_bool (by rw [hk]; rfl), hb⟩
  | true =>
    have c0 := VL.out.cell (i := 0) rfl
    go_wp2_with fail
    refine (HH.out _ (HM.out.kept hb) hk).mono ?_
    rintro e w4 ⟨rfl, hd⟩
    replace hb := hb.trans (hd.mono hb.size)
    clear c0
    go_wp2
    go_ret
    exact ⟨ret_bool (by rw [hk]; rfl), hb⟩
theorem pile_all {l : List UInt8} (h : pileOk l = true) : l.all tileB = true := by
  rw [List.all_eq_true]
  intro c hc
  obtain ⟨i, hi, rfl⟩ := List.mem_iff_getElem.1 hc
  have := (pileOk_iff.1 h).1 i hi
  rwa [List.getD_eq_getElem?_getD, List.getElem?_eq_getElem hi] at this
theorem pile_size {s : ByteArray} (h : pileOk s.data.toList = true) : s.size ≤ 100000 := by
  have := (pileOk_iff.1 h).2.2
  have e : s.data.toList.length = s.size := Array.length_toList
  omega
set_option maxHeartbeats 1000000 in
theorem TakeTiles_any (a b : ByteArray) (w : World) (ha : a.size ≤ 9223372036854775807) (hbz : b.size ≤ 9223372036854775807) :
    Calls Tryz.prog 150 #[.string a, .string b] w fun e w' => (∃ s, e = .returned (.tuple #[.string s, .int .i64 (if pileOk a.data.toList && pileOk b.data.toList then (if hasT a.data.toList b.data.toList then 0 else 3) else 1)])) ∧ Below w.heap.size w w' := by
  have hb : Below w.heap.size w w := Below.refl _ _
  have HA := Lib.hid (fun W => ValidPile_any a W ha)
  have HB := Lib.hid (fun W => ValidPile_any b W hbz)
  have HW := Lib.hid (fun W h1 h2 => without_any a b W (pile_size h1) (pile_size h2) (pile_all h1) (pile_all h2))
  generalize pileOk a.data.toList = x at *
  generalize pileOk b.data.toList = y at *
  generalize hasT a.data.toList b.data.toList = z at *
  go_enter Tryz.func150, Tryz.ntmps150
  go_wp2_with fail
  refine (HA.out _).mono ?_
  rintro e w3 ⟨rfl, hd⟩
  replace hb := hb.trans (hd.below _)
  clear hd HA
  cases x with
  | false =>
    clear HB HW
    go_wp2
    go_ret2
    exact ⟨⟨_, rfl⟩, hb⟩
  | true =>
    go_wp2_with fail
    refine (HB.out _).mono ?_
    rintro e w4 ⟨rfl, hd⟩
    replace hb := hb.trans (hd.below _)
    clear hd HB
    cases y with
    | false =>
      clear HW
      go_wp2
      go_ret2
      exact ⟨⟨_, rfl⟩, hb⟩
    | true =>
      go_wp2_with fail
      refine (HW.out _ (by trivial) (by trivial)).mono ?_
      rintro e w5 ⟨rfl, hd⟩
      replace hb := hb.trans (hd.mono hb.size)
      clear hd HW
      cases z with
      | false =>
        go_wp2
        go_ret2
        exact ⟨⟨_, rfl⟩, hb⟩
      | true =>
        go_wp2
        go_ret2
        exact ⟨⟨_, rfl⟩, hb⟩
theorem ContainsTiles_any (a b : ByteArray) (w : World) (ha : a.size ≤ 9223372036854775807) (hbz : b.size ≤ 9223372036854775807) :
    Calls Tryz.prog 65 #[.string a, .string b] w fun e w' => e = .returned (.bool (pileOk a.data.toList && (pileOk b.data.toList && hasT a.data.toList b.data.toList))) ∧ Below w.heap.size w w' := by
  have HT := Lib.hid (fun W => TakeTiles_any a b W ha hbz)
  generalize pileOk a.data.toList = x at *
  generalize pileOk b.data.toList = y at *
  generalize hasT a.data.toList b.data.toList = z at *
  have HR : Hid ((x && (y && z)) = decide ((if x && y then (if z then (0 : Int) else 3) else 1) = 0)) := Lib.hid (by cases x <;> cases y <;> cases z <;> rfl)
  rw [HR.out]
  clear HR
  generalize (if x && y then (if z then (0 : Int) else 3) else 1) = v at *
  go_enter Tryz.func65, Tryz.ntmps65
  go_wp2_with fail
  refine (HT.out _).mono ?_
  rintro e w3 ⟨⟨s, rfl⟩, hd⟩
  clear HT
  by_cases hv : v = 0
  · subst hv
    go_wp2
    go_ret
    exact ⟨ret_bool (by decide), hd⟩
  · go_wp2
    go_ret
    exact ⟨ret_bool (by simp [hv]), hd⟩
end Go.Proofs.YtjdcdhhbgijaoaaGreatDoor
