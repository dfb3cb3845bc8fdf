/- Contracts: the reference's words across. For valid boards. · Contracts: the reference's words that a play forms. For valid plays on valid boards. · Contracts: the reference's test on plays; its WordsFormed. No condition but that lengths fit an int. -/
import Derived.Test.YtjdcdhhbgijaoaaGreatDoorPlaA
import Derived.Test.YtjdcdhhbgijaoaaGreatDoorVar
namespace Go.Proofs.YtjdcdhhbgijaoaaGreatDoor
open Go.ChangeShapes Go.WideShapes Go.ChangeAt Go.RowKit Go.Sort

theorem take_snoc {W : List UInt8} {j : Nat} (h : j < W.length) {x : UInt8} (hx : W[j] = x) : W.take (j + 1) = W.take j ++ [x] := by
  rw [List.take_succ_eq_append_getElem h, hx]
set_option maxRecDepth 100000 in
set_option maxHeartbeats 4000000 in
theorem l12Cross_any (f : Brd) (n : Nat) (row col : Int) (x : UInt8) (g o : Nat) (w : World) (hb0 : f.Good n) (hg : BAt w g o f) (hr0 : 0 ≤ row) (hr1 : row < n) :
    Calls Tryz.prog 187 #[.pointer (some ⟨g, o, none⟩), .int .i64 row, .int .i64 col, .int .u8 (x.toNat : Int)] w fun e w' => (∃ z : Int, e = .returned (.tuple #[.string (mkB (crossW f.cell row col x)), .int .i64 z])) ∧ Below w.heap.size w w' := by
  obtain ⟨i0, hi0, hi1, hi2, hi3⟩ := info_parts infoByte
  have hlt := hg.lt
  have hn15 := hb0.hi
  have HFU : Hid (∀ r W, BAt W g o f → Calls Tryz.prog 200 #[.pointer (some ⟨g, o, none⟩), .int .i64 r, .int .i64 col] W fun e w' => e = .returned (.bool (fullC (f.cell r col))) ∧ Drew W w') := Lib.hid (fun r W h => l11Full_any f n r col g o W hb0 h)
  have HAT : Hid (∀ r W, BAt W g o f → f.inB r col = true → Calls Tryz.prog 192 #[.pointer (some ⟨g, o, none⟩), .int .i64 r, .int .i64 col] W fun e w' => e = .returned (.int .u8 ((f.cell r col).toNat : Int)) ∧ Drew W w') := Lib.hid (fun r W h hi => l11At_any f n r col g o W hb0 h hi)
  have HIN : Hid (∀ r, fullC (f.cell r col) = true → f.inB r col = true ∧ 0 ≤ r ∧ r < n) := Lib.hid (fun r h => by
    have h1 := hb0.full_in h
    exact ⟨h1, (hb0.inB.1 h1).1⟩)
  have hu := hb0.up_le (c := col) (r := row - 1) 16 (by omega)
  have hd0 := hb0.dn_le (c := col) (r := row + 1) 16 (by omega)
  have HU1 : Hid (∀ j : Nat, j < (upL f.cell col 16 (row - 1)).length → fullC (f.cell (row - 1 - j) col) = true) := Lib.hid (fun j h => (upL_at (F := f.cell) (c := col) 16 (row - 1) j h).2)
  have HU2 := Lib.hid (upL_end (F := f.cell) (c := col) 16 (row - 1))
  have HD2 := Lib.hid (dnL_end (F := f.cell) (c := col) 16 (row + 1))
  have HWL := Lib.hid (crossW_length f.cell row col x)
  have HW1 := Lib.hid (fun j h h2 => crossW_lo (F := f.cell) (R := row) (C := col) (x := x) (j := j) h h2)
  have HW2 := Lib.hid (fun h2 => crossW_mid (F := f.cell) (R := row) (C := col) (x := x) h2)
  have HW3 := Lib.hid (fun j h h2 => crossW_hi (F := f.cell) (R := row) (C := col) (x := x) (j := j) h h2)
  clear hb0
  generalize hux : (upL f.cell col 16 (row - 1)).length = u at *
  generalize hdx : (dnL f.cell col 16 (row + 1)).length = d at *
  generalize crossW f.cell row col x = W at *
  clear hux hdx
  generalize f.cell = F at *
  have hWl : W.length = u + 1 + d := HWL.out
  have hb : Below w.heap.size w w := Below.refl _ _
  have HG := Lib.hid hg
  clear hg
  go_enter Tryz.func187, Tryz.ntmps187
  go_wp2_with fail
  go_loopw [10] (fun iv wr => ∃ (j : Nat) (r : Int), j ≤ u ∧ r + j = row ∧ iv = .int .i64 r ∧ Hid (BAt wr g o f) ∧ Below w.heap.size w wr) (fun iv _ => (intOf iv).toNat)
  case atStart => exact ⟨0, row, Nat.zero_le _, by omega, rfl, HG, hb⟩
  case round =>
    clear HG hb
    obtain ⟨j, r, hj, hrj, rfl, HG, hb⟩ := hrel
    by_cases hju : j < u
    · have hf : fullC (F (r - 1) col) = true := by
        have := HU1.out j hju
        rwa [show row - 1 - (j : Int) = r - 1 from by omega] at this
      have hf2 := (HIN.out _ hf).2
      go_wp2_with fail
      refine (HFU.out (r - 1) _ HG.out).mono ?_
      rintro e wq ⟨rfl, hdq⟩
      have hd := hdq.bels
      clear hdq
      rw [hf]
      clear hf
      replace hb := hb.trans (hd.mono hb.size)
      replace HG := Lib.hid (HG.out.kept hd)
      clear hd
      go_wp2
      go_roundw
      case rel => exact ⟨j + 1, r - 1, by omega, by omega, by go_num, HG, hb⟩
      case measure => simp [intOf]; omega
    · obtain rfl : j = u := by omega
      have hf : fullC (F (r - 1) col) = false := by
        have := HU2.out (by omega)
        rwa [show row - 1 - (j : Int) = r - 1 from by omega] at this
      go_wp2_with fail
      refine (HFU.out (r - 1) _ HG.out).mono ?_
      rintro e wq ⟨rfl, hdq⟩
      have hd := hdq.bels
      clear hdq
      rw [hf]
      clear hf
      replace hb := hb.trans (hd.mono hb.size)
      replace HG := Lib.hid (HG.out.kept hd)
      clear hd
      have HO : Hid ((wq.alloc (.cells #[] 5)).ownsRow w.heap.size 5 1 (.slice (some ⟨wq.heap.size, 0, none⟩) 0 0) 0 ((W.take 0).flatMap U8.enc)) := Lib.hid (World.ownsRow_made (base := w.heap.size) (e := 5) (size := 1) wq #[] 0 hb.size (by unfold maxLen; omega) rfl)
      have hx : Below wq.heap.size wq (wq.alloc (.cells #[] 5)) := (Below.refl _ _).alloc (Nat.le_refl _) _
      replace hb := hb.trans (hx.mono hb.size)
      replace HG := Lib.hid (HG.out.kept hx)
      clear hx
      go_wp2_with fail
      go_loopw [11, 12] (fun ov iv wr => ∃ (k g1 cap : Nat) (r : Int), k ≤ W.length ∧ r + j = row + k ∧ iv = .int .i64 r ∧ ov = .slice (some ⟨g1, 0, none⟩) k cap ∧ Hid (wr.ownsRow w.heap.size 5 1 (.slice (some ⟨g1, 0, none⟩) k cap) k ((W.take k).flatMap U8.enc)) ∧ Hid (BAt wr g o f) ∧ Below w.heap.size w wr) (fun _ iv _ => (row + 17 - intOf iv).toNat)
      case atStart => exact ⟨0, _, 0, r, Nat.zero_le _, by omega, rfl, rfl, HO, HG, hb⟩
      case round =>
        clear HO HG hb hrj
        obtain ⟨k, g1, cap, r, hk, hrk, rfl, rfl, HO, HG, hb⟩ := hrel
        by_cases hkj : k = j
        · subst hkj
          obtain rfl : r = row := by omega
          have hkl : k < W.length := by omega
          have HTK : Hid (W.take (k + 1) = W.take k ++ [x]) := Lib.hid (take_snoc hkl (HW2.out hkl))
          obtain ⟨wq, hwq⟩ : ∃ wq : World, wq = wr := ⟨_, rfl⟩
          rw [← hwq] at HO HG hb ⊢
          clear hwq
          have hd : Below wq.heap.size wq (wq.alloc (.cells #[.int .u8 ((x).toNat : Int)] 5)) := (Below.refl _ _).alloc (Nat.le_refl _) _
          have KN := Lib.hid (new_byte wq (x) 5)
          have hz2 := hb.size
          replace hb := hb.trans (hd.mono hb.size)
          replace HO := Lib.hid (own_below HO.out hd)
          replace HG := Lib.hid (HG.out.kept hd)
          clear hd
          go_wp2_with (at_builtin; go_must (refine wpList_append_lies _ rfl (.tmp 37) (.tmp 39) 22 rfl w.heap.size 5 i0 _ 1 1 Tryz.underlying22 hi0 hi1 hi2 hi3 rfl (by decide) _ (k) ((W.take k).flatMap U8.enc) (by rfl) HO.out ⟨wq.heap.size, 0, none⟩ 1 1 (U8.enc (x)) (by rfl) rfl KN.out (u8_one1 (x)) (by decide) ?c1 ?c2 ?c3 _ rfl ?_))
          case c1 => unfold maxLen; omega
          case c2 => omega
          case c3 => (first | omega | (simp only [World.size_alloc]; omega))
          intro g7 cap7 w7 hown hgr hwh hlt7
          have hb7 := hb.grown hgr hb.size (fun q e => by have := (HO.out.lt q e).1; omega)
          have HO7 : Hid (w7.ownsRow w.heap.size 5 1 (.slice (some ⟨g7, 0, none⟩) (k + 1) cap7) (k + 1) ((W.take (k + 1)).flatMap U8.enc)) := Lib.hid (by rw [HTK.out, snoc_flat U8.enc]; exact hown)
          have HG7 := Lib.hid (HG.out.grown hgr (own_ne HO.out hlt))
          clear hown hgr hwh KN HO hb HG HTK
          go_wp2
          go_roundw
          case rel => exact ⟨k + 1, g7, cap7, r + 1, by omega, by omega, by go_num, by go_num, HO7, HG7, hb7⟩
          case measure => simp [intOf]; omega
        · by_cases hkl : k < W.length
          · have hne : (r == row) = false := by simp; omega
            have hwk : W[k] = F r col ∧ fullC (F r col) = true := by
              by_cases h1 : k < j
              · have := HW1.out k h1 hkl
                rwa [show row - (j : Int) + k = r from by omega] at this
              · have := HW3.out k (by omega) hkl
                rwa [show row - (j : Int) + k = r from by omega] at this
            have hf2 := HIN.out _ hwk.2
            have HTK : Hid (W.take (k + 1) = W.take k ++ [F r col]) := Lib.hid (take_snoc hkl hwk.1)
            have hf := hwk.2
            clear hwk
            go_wp2_with fail
            refine (HFU.out r _ HG.out).mono ?_
            rintro e wq ⟨rfl, hdq⟩
            have hd := hdq.bels
            clear hdq
            rw [hf]
            clear hf
            replace hb := hb.trans (hd.mono hb.size)
            replace HO := Lib.hid (own_below HO.out hd)
            replace HG := Lib.hid (HG.out.kept hd)
            clear hd
            go_wp2_with fail
            refine (HAT.out r _ HG.out hf2.1).mono ?_
            rintro e wq ⟨rfl, hdq⟩
            have hd := hdq.bels
            clear hdq
            replace hb := hb.trans (hd.mono hb.size)
            replace HO := Lib.hid (own_below HO.out hd)
            replace HG := Lib.hid (HG.out.kept hd)
            clear hd
            generalize F r col = y at *
            have hd : Below wq.heap.size wq (wq.alloc (.cells #[.int .u8 ((y).toNat : Int)] 5)) := (Below.refl _ _).alloc (Nat.le_refl _) _
            have KN := Lib.hid (new_byte wq (y) 5)
            have hz2 := hb.size
            replace hb := hb.trans (hd.mono hb.size)
            replace HO := Lib.hid (own_below HO.out hd)
            replace HG := Lib.hid (HG.out.kept hd)
            clear hd
            go_wp2_with (at_builtin; go_must (refine wpList_append_lies _ rfl (.tmp 41) (.tmp 46) 22 rfl w.heap.size 5 i0 _ 1 1 Tryz.underlying22 hi0 hi1 hi2 hi3 rfl (by decide) _ (k) ((W.take k).flatMap U8.enc) (by rfl) HO.out ⟨wq.heap.size, 0, none⟩ 1 1 (U8.enc (y)) (by rfl) rfl KN.out (u8_one1 (y)) (by decide) ?c1 ?c2 ?c3 _ rfl ?_))
            case c1 => unfold maxLen; omega
            case c2 => omega
            case c3 => (first | omega | (simp only [World.size_alloc]; omega))
            intro g7 cap7 w7 hown hgr hwh hlt7
            have hb7 := hb.grown hgr hb.size (fun q e => by have := (HO.out.lt q e).1; omega)
            have HO7 : Hid (w7.ownsRow w.heap.size 5 1 (.slice (some ⟨g7, 0, none⟩) (k + 1) cap7) (k + 1) ((W.take (k + 1)).flatMap U8.enc)) := Lib.hid (by rw [HTK.out, snoc_flat U8.enc]; exact hown)
            have HG7 := Lib.hid (HG.out.grown hgr (own_ne HO.out hlt))
            clear hown hgr hwh KN HO hb HG HTK
            go_wp2
            go_roundw
            case rel => exact ⟨k + 1, g7, cap7, r + 1, by omega, by omega, by go_num, by go_num, HO7, HG7, hb7⟩
            case measure => simp [intOf]; omega
          · have hne : (r == row) = false := by simp; omega
            have hf : fullC (F r col) = false := by
              have := HD2.out (by omega)
              rwa [show row + 1 + (d : Int) = r from by omega] at this
            have hO := HO.out
            rw [List.take_of_length_le (by omega)] at hO
            have HOL := Lib.hid hO
            clear hO HO
            go_wp2_with fail
            refine (HFU.out r _ HG.out).mono ?_
            rintro e wq ⟨rfl, hdq⟩
            have hd := hdq.bels
            clear hdq
            rw [hf]
            clear hf
            replace hb := hb.trans (hd.mono hb.size)
            replace HOL := Lib.hid (own_below HOL.out hd)
            replace HG := Lib.hid (HG.out.kept hd)
            clear hd
            have hcv := own_bytes HOL.out (show k = W.length by omega)
            go_wp2
            go_ret2
            exact ⟨⟨_, rfl⟩, hb⟩
end Go.Proofs.YtjdcdhhbgijaoaaGreatDoor

namespace Go.Proofs.YtjdcdhhbgijaoaaGreatDoor
open Go.ChangeShapes Go.WideShapes Go.ChangeAt Go.RowKit Go.Sort

/-- the words that the first offsets form -/
def formB (F : Fl) (R C : Int) (s : ByteArray) (is : List Nat) : List ByteArray := s :: (acrossL F R C s.data.toList is).map mkB
theorem formB_yes {F : Fl} {R C : Int} {s : ByteArray} {is : List Nat} {i : Nat} (h : 1 < (crossW F R (C + i) (s.data.toList.getD i 0)).length) : formB F R C s (is ++ [i]) = formB F R C s is ++ [mkB (crossW F R (C + i) (s.data.toList.getD i 0))] := by
  unfold formB
  rw [acrossL_snoc, if_pos h, List.map_append]
  rfl
theorem formB_no {F : Fl} {R C : Int} {s : ByteArray} {is : List Nat} {i : Nat} (h : ¬ 1 < (crossW F R (C + i) (s.data.toList.getD i 0)).length) : formB F R C s (is ++ [i]) = formB F R C s is := by
  unfold formB
  rw [acrossL_snoc, if_neg h, List.append_nil]
theorem formB_len (F : Fl) (R C : Int) (s : ByteArray) (is : List Nat) : (formB F R C s is).length ≤ is.length + 1 := by
  unfold formB
  have := acrossL_len F R C s.data.toList is
  simp only [List.length_cons, List.length_map]
  omega
theorem formB_size {F : Fl} {R C : Int} {s : ByteArray} {is : List Nat} (hs : s.size ≤ 12) : ∀ x ∈ formB F R C s is, x.size ≤ 33 := by
  intro x hx
  unfold formB at hx
  cases hx with
  | head => omega
  | tail _ hx =>
    obtain ⟨l, hl, rfl⟩ := List.mem_map.1 hx
    unfold acrossL at hl
    obtain ⟨i, _, rfl⟩ := List.mem_map.1 (List.mem_filter.1 hl).1
    rw [mkB_size]
    exact crossW_len _ _ _ _
theorem take_nat {fr : List Nat} {k : Nat} (h : k < fr.length) {i : Nat} (hi : fr[k] = i) : fr.take (k + 1) = fr.take k ++ [i] := by
  rw [List.take_succ_eq_append_getElem h, hi]
theorem row_nat {w : World} {base gf cap : Nat} {fr : List Nat} {n : Nat} (h : w.ownsRow base 2 1 (.slice (some ⟨gf, 0, none⟩) n cap) n (fr.flatMap N64.enc)) {k : Nat} (hk : k < fr.length) {i : Nat} (hi : fr[k] = i) : w.cell? ⟨gf, k, none⟩ = some (.int .i64 (i : Int)) := by
  have h1 := own_news0 h k (.int .i64 (i : Int)) (by
    have := flatMap_get (enc := N64.enc) (sz := 1) N64.enc_len fr hk (j := 0) (by omega)
    rw [Nat.mul_one, Nat.add_zero] at this
    rw [this, hi]
    rfl)
  rwa [Go.Addr.add_lit, Nat.zero_add] at h1
theorem row_txt {w : World} {base gf cap : Nat} {xs : List ByteArray} {n : Nat} (h : w.ownsRow base 9 1 (.slice (some ⟨gf, 0, none⟩) n cap) n (xs.flatMap Tx.enc)) {k : Nat} (hk : k < xs.length) : w.cell? ⟨gf, k, none⟩ = some (.string xs[k]) := by
  have h1 := own_news0 h k (.string xs[k]) (by
    have := flatMap_get (enc := Tx.enc) (sz := 1) Tx.enc_len xs hk (j := 0) (by omega)
    rw [Nat.mul_one, Nat.add_zero] at this
    rw [this]
    rfl)
  rwa [Go.Addr.add_lit, Nat.zero_add] at h1
theorem own_new_tx (w : World) (s : ByteArray) (t : TypeId) (base : Nat) (hb : base ≤ w.heap.size) : (w.alloc (.cells #[.string s] t)).ownsRow base t 1 (.slice (some ⟨w.heap.size, 0, none⟩) 1 1) 1 [.string s] :=
  ⟨by simp, .inr ⟨w.heap.size, 1, #[.string s], rfl, hb, heap_alloc_new w _, Nat.le_refl _, by unfold maxLen; omega, by simp, by simp⟩⟩
set_option maxRecDepth 100000 in
set_option maxHeartbeats 4000000 in
theorem l12Formed_any (f : Brd) (n : Nat) (row col : Int) (down : Bool) (s : ByteArray) (g o : Nat) (w : World) (hb0 : f.Good n) (hg : BAt w g o f) (hs : s.size ≤ 12) (hr0 : 0 ≤ row) (hr1 : row < n) (hc0 : 0 ≤ col) (hc1 : col + s.size ≤ n) :
    Calls Tryz.prog 175 #[.pointer (some ⟨g, o, none⟩), .agg #[.int .i64 row, .int .i64 col, .bool down, .string s]] w (TextsPost w (formB f.cell row col s (freshL f.cell row col s.size))) := by
  obtain ⟨i0, hi0, hi1, hi2, hi3⟩ := info_parts infoTx
  have hlt := hg.lt
  have hn15 := hb0.hi
  obtain ⟨w2, hw2⟩ : ∃ w2, w2 = (w.alloc (.cells #[.int .i64 row, .int .i64 col, .bool down, .string s] 30)).alloc (.cells #[.string s] 9) := ⟨_, rfl⟩
  have hb : Below w.heap.size w w2 := by rw [hw2]; exact ((Below.refl _ _).alloc (Nat.le_refl _) _).alloc (by simp) _
  have V0 : Hid (VarAt w2 w.heap.size 30 [.int .i64 row, .int .i64 col, .bool down, .string s]) := by
    rw [hw2]
    exact Lib.hid ((VarAt.new w 30 [.int .i64 row, .int .i64 col, .bool down, .string s]).kept ((Below.refl _ _).alloc (Nat.le_refl _) _))
  have HG : Hid (BAt w2 g o f) := by
    rw [hw2]
    exact Lib.hid ((hg.kept ((Below.refl _ _).alloc (Nat.le_refl _) _)).kept ((Below.refl _ _).alloc (Nat.le_refl _) _))
  have HO : Hid (w2.ownsRow (w.heap.size + 1) 9 1 (.slice (some ⟨w.heap.size + 1, 0, none⟩) 1 1) 1 ((formB f.cell row col s []).flatMap Tx.enc)) := by
    rw [hw2]
    have := own_new_tx (w.alloc (.cells #[.int .i64 row, .int .i64 col, .bool down, .string s] 30)) s 9 (w.heap.size + 1) (by simp)
    simp only [World.size_alloc] at this
    exact Lib.hid this
  have HFR : Hid (∀ W, BAt W g o f → Calls Tryz.prog 98 #[.pointer (some ⟨g, o, none⟩), .agg #[.int .i64 row, .int .i64 col, .bool down, .string s]] W (NatsPost W (freshL f.cell row col s.size))) := Lib.hid (fun W h => l12Fresh_any f n row col down s g o W hb0 h hs hr0 hr1 hc0 hc1)
  have HCR : Hid (∀ c' (x : UInt8) W, BAt W g o f → Calls Tryz.prog 187 #[.pointer (some ⟨g, o, none⟩), .int .i64 row, .int .i64 c', .int .u8 (x.toNat : Int)] W fun e w' => (∃ z : Int, e = .returned (.tuple #[.string (mkB (crossW f.cell row c' x)), .int .i64 z])) ∧ Below W.heap.size W w') := Lib.hid (fun c' x W h => l12Cross_any f n row c' x g o W hb0 h hr0 hr1)
  have HLT : Hid (∀ i ∈ freshL f.cell row col s.size, i < s.size) := Lib.hid (fun i h => (freshL_lt h).1)
  have hfl := freshL_len f.cell row col s.size
  have HYES := Lib.hid (fun is i h => formB_yes (F := f.cell) (R := row) (C := col) (s := s) (is := is) (i := i) h)
  have HNO := Lib.hid (fun is i h => formB_no (F := f.cell) (R := row) (C := col) (s := s) (is := is) (i := i) h)
  have HFB := Lib.hid (formB_len f.cell row col s)
  have HW2 := Lib.hid hw2
  clear hw2 hg hb0
  generalize freshL f.cell row col s.size = fr at *
  go_enter Tryz.func175, Tryz.ntmps175
  go_upto_region 2 with fail
  rw [← HW2.out]
  clear HW2
  have c0 := V0.out.cell (i := 0) rfl
  have c1 := V0.out.cell (i := 1) rfl
  have c2 := V0.out.cell (i := 2) rfl
  have c3 := V0.out.cell (i := 3) rfl
  go_wp2_with fail
  refine (HFR.out _ HG.out).mono ?_
  rintro e w3 ⟨gf, cf, rfl, hx0, hd⟩
  have hgf := (hx0.lt gf rfl).1
  have hgo : w.heap.size + 1 < w2.heap.size := (HO.out.lt _ rfl).2
  have HX := Lib.hid (own_mono hx0 (show w.heap.size + 1 ≤ _ by omega))
  clear hx0 c0 c1 c2 c3
  replace hb := hb.trans (hd.mono hb.size)
  replace HO := Lib.hid (own_below HO.out hd)
  replace V0 := Lib.hid (V0.out.kept hd)
  replace HG := Lib.hid (HG.out.kept hd)
  clear hd
  generalize hfrl : fr.length = m at *
  go_wp2_with fail
  go_loopw [5, 7] (fun ov iv wr => ∃ (k g1 cap ny : Nat), k ≤ m ∧ iv = .int .i64 k ∧ ov = .slice (some ⟨g1, 0, none⟩) ny cap ∧ Hid ((formB f.cell row col s (fr.take k)).length = ny) ∧ g1 ≠ gf ∧ gf < wr.heap.size ∧ Hid (wr.ownsRow (w.heap.size + 1) 9 1 (.slice (some ⟨g1, 0, none⟩) ny cap) ny ((formB f.cell row col s (fr.take k)).flatMap Tx.enc)) ∧ Hid (wr.ownsRow (w.heap.size + 1) 2 1 (.slice (some ⟨gf, 0, none⟩) m cf) m (fr.flatMap N64.enc)) ∧ Hid (BAt wr g o f) ∧ Hid (VarAt wr w.heap.size 30 [.int .i64 row, .int .i64 col, .bool down, .string s]) ∧ Below w.heap.size w wr) (fun _ iv _ => m - (intOf iv).toNat)
  case atStart => exact ⟨0, _, 1, 1, Nat.zero_le _, rfl, rfl, Lib.hid rfl, by omega, (HX.out.lt gf rfl).2, HO, HX, HG, V0, hb⟩
  case round =>
    clear HO HX HG V0 hb
    obtain ⟨k, g1, cap, ny, hk, rfl, rfl, HNY, hne, hgw, HO, HX, HG, V0, hb⟩ := hrel
    have hz2 := V0.out.lt
    by_cases hkm : k < m
    · obtain ⟨i, hi⟩ : ∃ i, i = fr[k]'(by omega) := ⟨_, rfl⟩
      have hkf : k < fr.length := by omega
      have HTK := Lib.hid (take_nat hkf hi.symm)
      have his : i < s.size := by rw [hi]; exact HLT.out _ (List.getElem_mem _)
      have HCL := Lib.hid (fun (W : World) (h : W.ownsRow (w.heap.size + 1) 2 1 (.slice (some ⟨gf, 0, none⟩) m cf) m (fr.flatMap N64.enc)) => row_nat h hkf hi.symm)
      have HGDX := Lib.hid (getD_byt his)
      have HY2 := Lib.hid (fun h => HYES.out (fr.take k) i h)
      have HN2 := Lib.hid (fun h => HNO.out (fr.take k) i h)
      rw [HGDX.out] at HY2 HN2
      have hfb := HFB.out (fr.take k)
      have hny : ny ≤ 13 := by
        have := HNY.out
        have h2 : (fr.take k).length ≤ k := by rw [List.length_take]; omega
        omega
      clear hi hkf HGDX hfb
      have wr1 : IntKind.i64.wrap (col + (i : Int)) = col + i := IntWalk.i64_in _ (by omega)
      have hii : (i : Int) < (s.size : Int) := by omega
      have hin0 : (0 : Int) ≤ (i : Int) := by omega
      go_upto_region 6 with fail
      have hd : Below wr.heap.size wr wr.drew := (Below.refl _ _).drew
      have hgw2 := Nat.lt_of_lt_of_le hgw hd.size
      replace hb := hb.trans (hd.mono hb.size)
      replace HO := Lib.hid (own_below HO.out hd)
      replace HX := Lib.hid (own_below HX.out hd)
      replace V0 := Lib.hid (V0.out.kept hd)
      replace HG := Lib.hid (HG.out.kept hd)
      clear hd
      go_region_held3 (fun w' => w'.cell? ⟨w.heap.size, 0, none⟩ = some (.int .i64 row) ∧ w'.cell? ⟨w.heap.size, 1, none⟩ = some (.int .i64 col) ∧ w'.cell? ⟨w.heap.size, 3, none⟩ = some (.string s) ∧ w'.cell? ⟨gf, k, none⟩ = some (.int .i64 (i : Int)))
        (exact ⟨V0.out.cell (i := 0) rfl, V0.out.cell (i := 1) rfl, V0.out.cell (i := 3) rfl, HCL.out _ HX.out⟩)
        ((go_at_call 187; refine (HCR.out (col + i) s[i] _ HG.out).mono ?_; rintro e wq ⟨⟨z, rfl⟩, hd⟩; replace HO := Lib.hid (own_below HO.out hd); replace HX := Lib.hid (own_below HX.out hd); replace V0 := Lib.hid (V0.out.kept hd); replace HG := Lib.hid (HG.out.kept hd); replace hgw2 := Nat.lt_of_lt_of_le hgw2 hd.size; replace hb := hb.trans (hd.mono hb.size); clear hd))
      generalize wq = wa at *
      have HSZ : Hid ((mkB (crossW f.cell row (col + i) s[i])).size = (crossW f.cell row (col + i) s[i]).length) := Lib.hid (mkB_size _)
      by_cases hl : 1 < (crossW f.cell row (col + i) s[i]).length
      · have HFE := Lib.hid (HY2.out hl)
        have hsz : 1 < (mkB (crossW f.cell row (col + i) s[i])).size := by rw [HSZ.out]; exact hl
        clear hl HSZ HY2 HN2
        rw [← HTK.out] at HFE
        generalize mkB (crossW f.cell row (col + i) s[i]) = sw at *
        have hx : Below wa.heap.size wa (wa.alloc (.cells #[.string sw] 9)) := (Below.refl _ _).alloc (Nat.le_refl _) _
        have KN := Lib.hid (new_tx wa sw 9)
        have hz3 := V0.out.lt
        replace hb := hb.trans (hx.mono hb.size)
        replace HO := Lib.hid (own_below HO.out hx)
        replace HX := Lib.hid (own_below HX.out hx)
        replace V0 := Lib.hid (V0.out.kept hx)
        replace HG := Lib.hid (HG.out.kept hx)
        clear hx
        go_wp2_with (at_builtin; go_must (refine wpList_append_lies _ rfl (.tmp 46) (.tmp 48) 26 rfl (w.heap.size + 1) 9 i0 _ 1 16 Tryz.underlying26 hi0 hi1 hi2 hi3 rfl (by decide) _ ny ((formB f.cell row col s (fr.take k)).flatMap Tx.enc) (by rfl) HO.out ⟨wa.heap.size, 0, none⟩ 1 1 (Tx.enc sw) (by rfl) rfl KN.out (tx_one sw) (by decide) ?c1 ?c2 ?c3 _ rfl ?_))
        case c1 => unfold maxLen; omega
        case c2 => omega
        case c3 => (first | omega | (simp only [World.size_alloc]; omega))
        intro g7 cap7 w7 hown hgr hwh hlt7
        have hb7 := hb.grown hgr hb.size (fun q e => by have := (HO.out.lt q e).1; omega)
        have HNY7 : Hid ((formB f.cell row col s (fr.take (k + 1))).length = ny + 1) := Lib.hid (by rw [HFE.out, List.length_append, HNY.out]; rfl)
        have HO7 : Hid (w7.ownsRow (w.heap.size + 1) 9 1 (.slice (some ⟨g7, 0, none⟩) (ny + 1) cap7) (ny + 1) ((formB f.cell row col s (fr.take (k + 1))).flatMap Tx.enc)) := Lib.hid (by
          rw [HFE.out, snoc_flat Tx.enc]; exact hown)
        have hne7 : g7 ≠ gf := by
          rcases hwh with h | h
          · simp [Value.ownBlock] at h; omega
          · rw [h]; (first | omega | (simp only [World.size_alloc]; omega))
        have HX7 := Lib.hid (HX.out.kept hgr (.inr (by simp [Value.ownBlock]; omega)))
        have V7 := Lib.hid (V0.out.grown hgr (own_ne HO.out (by omega)))
        have HG7 := Lib.hid (HG.out.grown hgr (own_ne HO.out (by omega)))
        have hgw7 : gf < w7.heap.size := Nat.lt_of_lt_of_le (by (first | omega | (simp only [World.size_alloc]; omega))) hgr.size
        clear hown hgr hwh KN HO hb V0 HG HX
        go_wp2
        go_roundw
        case rel => exact ⟨k + 1, g7, cap7, ny + 1, by omega, by go_num, by go_num, HNY7, hne7, hgw7, HO7, HX7, HG7, V7, hb7⟩
        case measure => simp [intOf]; omega
      · have HFE := Lib.hid (HN2.out hl)
        have hsz : ¬ 1 < (mkB (crossW f.cell row (col + i) s[i])).size := by rw [HSZ.out]; exact hl
        clear hl HSZ HY2 HN2
        rw [← HTK.out] at HFE
        generalize mkB (crossW f.cell row (col + i) s[i]) = sw at *
        have HNY7 : Hid ((formB f.cell row col s (fr.take (k + 1))).length = ny) := Lib.hid (by rw [HFE.out, HNY.out])
        have HO7 : Hid (wa.ownsRow (w.heap.size + 1) 9 1 (.slice (some ⟨g1, 0, none⟩) ny cap) ny ((formB f.cell row col s (fr.take (k + 1))).flatMap Tx.enc)) := Lib.hid (by rw [HFE.out]; exact HO.out)
        clear HO
        go_wp2
        go_roundw
        case rel => exact ⟨k + 1, g1, cap, ny, by omega, by go_num, rfl, HNY7, hne, hgw2, HO7, HX, HG, V0, hb⟩
        case measure => simp [intOf]; omega
    · obtain rfl : k = m := by omega
      have hO := HO.out
      have hN := HNY.out
      rw [List.take_of_length_le (by omega)] at hO hN
      have HON := Lib.hid hO
      have HNN := Lib.hid hN
      clear hO hN HO HNY
      go_wp2
      go_ret
      exact ⟨g1, cap, by rw [HNN.out]; rfl, by rw [HNN.out]; exact own_mono HON.out (by omega), hb⟩
end Go.Proofs.YtjdcdhhbgijaoaaGreatDoor

namespace Go.Proofs.YtjdcdhhbgijaoaaGreatDoor
open Go.ChangeShapes Go.WideShapes Go.ChangeAt Go.RowKit Go.Sort

/-! ### Plain -/
theorem okPlay_bad {b : Brd} {p : Ply} (h : b.ok = false) : b.okPlay p = false := by unfold Brd.okPlay; rw [h]; rfl
theorem okPlay_word {b : Brd} {p : Ply} (h : mainL p.word.data.toList = false) : b.okPlay p = false := by unfold Brd.okPlay; rw [h, Bool.and_false]; rfl
theorem okPlay_fits {b : Brd} {p : Ply} (h1 : b.ok = true) (h2 : mainL p.word.data.toList = true) : b.okPlay p = fitsF (b.flat p.down).cell (b.flat p.down).size p.flat.row p.flat.col p.word.data.toList := by
  unfold Brd.okPlay Brd.fits Brd.view
  rw [h1, h2, flat_size, Ply.flat_row, Ply.flat_col]
  rfl
theorem main_size {s : ByteArray} (h : mainL s.data.toList = true) : s.size ≤ 12 := by
  have := (mainL_iff.1 h).2.1
  simpa using this
theorem words_form (b : Brd) (p : Ply) : b.words p = (formB (b.view p) p.r p.c p.word (b.fresh p)).map fun s => mkB (lowL s.data.toList) := by
  unfold Brd.words Brd.formed formB
  simp only [List.map_cons, List.map_map]
  refine congrArg _ (List.map_congr_left fun l _ => ?_)
  simp only [Function.comp, mkB_data]
theorem take_tx {xs : List ByteArray} {k : Nat} (h : k < xs.length) (f : ByteArray → ByteArray) : (xs.take (k + 1)).map f = (xs.take k).map f ++ [f xs[k]] := by
  rw [List.take_succ_eq_append_getElem h, List.map_append]
  rfl

set_option maxRecDepth 100000 in
set_option maxHeartbeats 4000000 in
theorem l12Ok_any (b : Brd) (p : Ply) (g o : Nat) (w : World) (hg : BAt w g o b) (hf : b.fit) (hp : p.fit) :
    Calls Tryz.prog 81 #[.pointer (some ⟨g, o, none⟩), .agg #[.int .i64 p.row, .int .i64 p.col, .bool p.down, .string p.word]] w fun e w' => e = .returned (.bool (b.okPlay p)) ∧ Below w.heap.size w w' := by
  have hlt := hg.lt
  have hpw : p.word.size ≤ 9223372036854775807 := hp
  have hb : Below w.heap.size w (w.alloc (.cells #[.int .i64 p.row, .int .i64 p.col, .bool p.down, .string p.word] 30)) := (Below.refl _ _).alloc (Nat.le_refl _) _
  have V0 := Lib.hid (VarAt.new w 30 [.int .i64 p.row, .int .i64 p.col, .bool p.down, .string p.word])
  have HG := Lib.hid (hg.kept hb)
  clear hg
  cases h1 : b.ok with
  | false =>
    have HN := Lib.hid (okPlay_bad (p := p) h1)
    go_enter Tryz.func81, Tryz.ntmps81
    go_upto_region 1 with fail
    generalize w.alloc (.cells #[.int .i64 p.row, .int .i64 p.col, .bool p.down, .string p.word] 30) = w1 at *
    go_wp2_with fail
    refine (l11Ok_any b g o _ HG.out hf).mono ?_
    rintro e w2 ⟨rfl, hdq⟩
    have hd := hdq.bels
    clear hdq
    replace hb := hb.trans (hd.mono hb.size)
    replace V0 := Lib.hid (V0.out.kept hd)
    replace HG := Lib.hid (HG.out.kept hd)
    clear hd
    rw [h1]
    clear h1
    go_wp2
    go_ret
    exact ⟨ret_bool HN.out.symm, hb⟩
  | true =>
    cases h2 : mainL p.word.data.toList with
    | false =>
      have HN := Lib.hid (okPlay_word (b := b) h2)
      go_enter Tryz.func81, Tryz.ntmps81
      go_upto_region 1 with fail
      generalize w.alloc (.cells #[.int .i64 p.row, .int .i64 p.col, .bool p.down, .string p.word] 30) = w1 at *
      go_wp2_with fail
      refine (l11Ok_any b g o _ HG.out hf).mono ?_
      rintro e w2 ⟨rfl, hdq⟩
      have hd := hdq.bels
      clear hdq
      replace hb := hb.trans (hd.mono hb.size)
      replace V0 := Lib.hid (V0.out.kept hd)
      replace HG := Lib.hid (HG.out.kept hd)
      clear hd
      rw [h1]
      clear h1
      have c3 := V0.out.cell (i := 3) rfl
      go_wp2_with fail
      refine (l12Word_any p.word _ hpw).mono ?_
      rintro e w3 ⟨rfl, rfl⟩
      rw [h2]
      clear h2
      go_wp2
      go_ret
      exact ⟨ret_bool HN.out.symm, hb⟩
    | true =>
      have HN := Lib.hid (okPlay_fits h1 h2)
      have H12 := Lib.hid (main_size h2)
      obtain ⟨n, hgd⟩ := Brd.good h1
      have HGD := Lib.hid hgd
      have HGF := Lib.hid (hgd.flat p.down)
      clear hgd
      go_enter Tryz.func81, Tryz.ntmps81
      go_upto_region 1 with fail
      generalize w.alloc (.cells #[.int .i64 p.row, .int .i64 p.col, .bool p.down, .string p.word] 30) = w1 at *
      go_wp2_with fail
      refine (l11Ok_any b g o _ HG.out hf).mono ?_
      rintro e w2 ⟨rfl, hdq⟩
      have hd := hdq.bels
      clear hdq
      replace hb := hb.trans (hd.mono hb.size)
      replace V0 := Lib.hid (V0.out.kept hd)
      replace HG := Lib.hid (HG.out.kept hd)
      clear hd
      rw [h1]
      clear h1
      have c0 := V0.out.cell (i := 0) rfl
      have c1 := V0.out.cell (i := 1) rfl
      have c2 := V0.out.cell (i := 2) rfl
      have c3 := V0.out.cell (i := 3) rfl
      go_wp2_with fail
      refine (l12Word_any p.word _ hpw).mono ?_
      rintro e w3 ⟨rfl, rfl⟩
      rw [h2]
      clear h2
      go_wp2_with fail
      refine (l12Flat_any b p n g o _ HGD.out HG.out).mono ?_
      rintro e w4 ⟨rfl, hd⟩
      unfold flatV
      clear c0 c1 c2 c3
      replace hb := hb.trans (hd.mono hb.size)
      replace V0 := Lib.hid (V0.out.kept hd)
      clear hd
      generalize b.flat p.down = f at *
      generalize p.flat.row = fr at *
      generalize p.flat.col = fc at *
      generalize p.flat.down = fd at *
      have HF : Hid (BAt ((w4.alloc (.cells #[.int .i64 f.size, .string f.premium, .string f.cells] 25)).alloc (.cells #[.int .i64 fr, .int .i64 fc, .bool fd, .string p.word] 30)) w4.heap.size 0 f) := Lib.hid ((BAt.new w4 f 25).kept ((Below.refl _ _).alloc (Nat.le_refl _) _))
      have hd : Below w4.heap.size w4 ((w4.alloc (.cells #[.int .i64 f.size, .string f.premium, .string f.cells] 25)).alloc (.cells #[.int .i64 fr, .int .i64 fc, .bool fd, .string p.word] 30)) := ((Below.refl _ _).alloc (Nat.le_refl _) _).alloc (by simp) _
      replace hb := hb.trans (hd.mono hb.size)
      clear hd
      go_wp2_with fail
      refine (l12Fits_any f n fr fc fd p.word w4.heap.size 0 _ HGF.out HF.out H12.out).mono ?_
      rintro e w5 ⟨rfl, hd⟩
      replace hb := hb.trans (hd.mono hb.size)
      clear hd
      go_wp2
      go_ret
      exact ⟨ret_bool HN.out.symm, hb⟩
set_option maxRecDepth 100000 in
set_option maxHeartbeats 4000000 in
theorem l12Words_any (b : Brd) (p : Ply) (n : Nat) (g o : Nat) (w : World) (hg : BAt w g o b) (hp : PGood b p n) :
    Calls Tryz.prog 124 #[.pointer (some ⟨g, o, none⟩), .agg #[.int .i64 p.row, .int .i64 p.col, .bool p.down, .string p.word]] w (TextsPost w (b.words p)) := by
  obtain ⟨i0, hi0, hi1, hi2, hi3⟩ := info_parts infoTx
  have hlt := hg.lt
  have hb : Below w.heap.size w (w.alloc (.cells #[.int .i64 p.row, .int .i64 p.col, .bool p.down, .string p.word] 30)) := (Below.refl _ _).alloc (Nat.le_refl _) _
  have V0 := Lib.hid (VarAt.new w 30 [.int .i64 p.row, .int .i64 p.col, .bool p.down, .string p.word])
  have HG := Lib.hid (hg.kept hb)
  clear hg
  have hn15 := hp.good.hi
  have hs12 := hp.twelve
  have HGD := Lib.hid hp.good
  have HFO : Hid (∀ x W, BAt W x 0 (b.flat p.down) → Calls Tryz.prog 175 #[.pointer (some ⟨x, 0, none⟩), .agg #[.int .i64 p.flat.row, .int .i64 p.flat.col, .bool p.flat.down, .string p.word]] W (TextsPost W (formB (b.view p) p.r p.c p.word (b.fresh p)))) := Lib.hid (fun x W h => by
    have := l12Formed_any (b.flat p.down) n p.flat.row p.flat.col p.flat.down p.word x 0 W (hp.good.flat p.down) h hp.twelve (by rw [Ply.flat_row]; exact hp.r0) (by rw [Ply.flat_row]; exact hp.r1) (by rw [Ply.flat_col]; exact hp.c0) (by rw [Ply.flat_col]; exact hp.c1)
    rw [Ply.flat_row, Ply.flat_col] at this ⊢
    exact this)
  have HWF := Lib.hid (words_form b p)
  have HXS := Lib.hid (formB_size (F := b.view p) (R := p.r) (C := p.c) (is := b.fresh p) hs12)
  have hxl := formB_len (b.view p) p.r p.c p.word (b.fresh p)
  have hfl : (b.fresh p).length ≤ p.word.size := freshL_len _ _ _ _
  obtain ⟨sm, hsm⟩ : ∃ sm : ByteArray → ByteArray, ∀ s, sm s = mkB (lowL s.data.toList) := ⟨_, fun _ => rfl⟩
  have HSM : Hid (∀ s W, s.size ≤ 1048576 → Calls Tryz.prog 201 #[.string s] W fun e w' => e = .returned (.string (sm s)) ∧ Below W.heap.size W w') := Lib.hid (fun s W h => by rw [hsm]; exact l03Small_any s W h)
  have HWS : Hid (b.words p = (formB (b.view p) p.r p.c p.word (b.fresh p)).map sm) := Lib.hid (by rw [HWF.out]; exact List.map_congr_left fun s _ => (hsm s).symm)
  rw [HWS.out]
  clear HWF HWS hsm hp
  generalize formB (b.view p) p.r p.c p.word (b.fresh p) = xs at *
  go_enter Tryz.func124, Tryz.ntmps124
  go_upto_region 1 with fail
  generalize w.alloc (.cells #[.int .i64 p.row, .int .i64 p.col, .bool p.down, .string p.word] 30) = w1 at *
  have c0 := V0.out.cell (i := 0) rfl
  have c1 := V0.out.cell (i := 1) rfl
  have c2 := V0.out.cell (i := 2) rfl
  have c3 := V0.out.cell (i := 3) rfl
  go_wp2_with fail
  refine (l12Flat_any b p n g o _ HGD.out HG.out).mono ?_
  rintro e w4 ⟨rfl, hd⟩
  unfold flatV
  clear c0 c1 c2 c3
  replace hb := hb.trans (hd.mono hb.size)
  replace V0 := Lib.hid (V0.out.kept hd)
  clear hd
  generalize b.flat p.down = f at *
  generalize p.flat.row = fr at *
  generalize p.flat.col = fc at *
  generalize p.flat.down = fd at *
  have HF : Hid (BAt ((w4.alloc (.cells #[.int .i64 f.size, .string f.premium, .string f.cells] 25)).alloc (.cells #[.int .i64 fr, .int .i64 fc, .bool fd, .string p.word] 30)) w4.heap.size 0 f) := Lib.hid ((BAt.new w4 f 25).kept ((Below.refl _ _).alloc (Nat.le_refl _) _))
  have hd : Below w4.heap.size w4 ((w4.alloc (.cells #[.int .i64 f.size, .string f.premium, .string f.cells] 25)).alloc (.cells #[.int .i64 fr, .int .i64 fc, .bool fd, .string p.word] 30)) := ((Below.refl _ _).alloc (Nat.le_refl _) _).alloc (by simp) _
  replace hb := hb.trans (hd.mono hb.size)
  clear hd
  have hz := hb.size
  go_wp2_with fail
  refine (HFO.out _ _ HF.out).mono ?_
  rintro e w5 ⟨gx, cx, rfl, hx0, hd⟩
  have hgx := (hx0.lt gx rfl).1
  have HX := Lib.hid (own_mono hx0 (show w.heap.size ≤ _ by omega))
  clear hx0 HF HFO
  replace hb := hb.trans (hd.mono hb.size)
  clear hd
  generalize hxsl : xs.length = m at *
  have HO : Hid ((w5.alloc (.cells #[] 9)).ownsRow w.heap.size 9 1 (.slice (some ⟨w5.heap.size, 0, none⟩) 0 0) 0 (((xs.map sm).take 0).flatMap Tx.enc)) := Lib.hid (World.ownsRow_made (base := w.heap.size) (e := 9) (size := 1) w5 #[] 0 hb.size (by unfold maxLen; omega) rfl)
  have hgx5 := (HX.out.lt gx rfl).2
  have hd : Below w5.heap.size w5 (w5.alloc (.cells #[] 9)) := (Below.refl _ _).alloc (Nat.le_refl _) _
  replace hb := hb.trans (hd.mono hb.size)
  replace HX := Lib.hid (own_below HX.out hd)
  clear hd
  go_wp2_with fail
  go_loopw [8, 9] (fun ov iv wr => ∃ (k g1 cap : Nat), k ≤ m ∧ iv = .int .i64 k ∧ ov = .slice (some ⟨g1, 0, none⟩) k cap ∧ g1 ≠ gx ∧ gx < wr.heap.size ∧ Hid (wr.ownsRow w.heap.size 9 1 (.slice (some ⟨g1, 0, none⟩) k cap) k (((xs.map sm).take k).flatMap Tx.enc)) ∧ Hid (wr.ownsRow w.heap.size 9 1 (.slice (some ⟨gx, 0, none⟩) m cx) m (xs.flatMap Tx.enc)) ∧ Below w.heap.size w wr) (fun _ iv _ => m - (intOf iv).toNat)
  case atStart => exact ⟨0, _, 0, Nat.zero_le _, rfl, rfl, by omega, (HX.out.lt gx rfl).2, HO, HX, hb⟩
  case round =>
    clear HO HX hb
    obtain ⟨k, g1, cap, hk, rfl, rfl, hne, hgw, HO, HX, hb⟩ := hrel
    by_cases hkm : k < m
    · obtain ⟨s, hse⟩ : ∃ s, s = xs[k]'(by omega) := ⟨_, rfl⟩
      have hkf : k < xs.length := by omega
      have HTK : Hid ((xs.map sm).take (k + 1) = (xs.map sm).take k ++ [sm s]) := Lib.hid (by rw [← List.map_take, ← List.map_take, take_tx hkf, hse])
      have hsz : s.size ≤ 33 := by rw [hse]; exact HXS.out _ (List.getElem_mem _)
      have cx0 := row_txt HX.out hkf
      rw [← hse] at cx0
      clear hse hkf
      go_wp2_with fail
      refine (HSM.out s _ (by omega)).mono ?_
      rintro e wq ⟨rfl, hd⟩
      have hgw2 := Nat.lt_of_lt_of_le hgw hd.size
      clear cx0
      replace hb := hb.trans (hd.mono hb.size)
      replace HO := Lib.hid (own_below HO.out hd)
      replace HX := Lib.hid (own_below HX.out hd)
      clear hd
      generalize sm s = y at *
      have hx : Below wq.heap.size wq (wq.alloc (.cells #[.string y] 9)) := (Below.refl _ _).alloc (Nat.le_refl _) _
      have KN := Lib.hid (new_tx wq y 9)
      have hz3 := hb.size
      replace hb := hb.trans (hx.mono hb.size)
      replace HO := Lib.hid (own_below HO.out hx)
      replace HX := Lib.hid (own_below HX.out hx)
      clear hx
      go_wp2_with (at_builtin; go_must (refine wpList_append_lies _ rfl (.tmp 25) (.tmp 31) 26 rfl w.heap.size 9 i0 _ 1 16 Tryz.underlying26 hi0 hi1 hi2 hi3 rfl (by decide) _ k (((xs.map sm).take k).flatMap Tx.enc) (by rfl) HO.out ⟨wq.heap.size, 0, none⟩ 1 1 (Tx.enc y) (by rfl) rfl KN.out (tx_one y) (by decide) ?c1 ?c2 ?c3 _ rfl ?_))
      case c1 => unfold maxLen; omega
      case c2 => omega
      case c3 => (first | omega | (simp only [World.size_alloc]; omega))
      intro g7 cap7 w7 hown hgr hwh hlt7
      have hb7 := hb.grown hgr hb.size (fun q e => by have := (HO.out.lt q e).1; omega)
      have HO7 : Hid (w7.ownsRow w.heap.size 9 1 (.slice (some ⟨g7, 0, none⟩) (k + 1) cap7) (k + 1) (((xs.map sm).take (k + 1)).flatMap Tx.enc)) := Lib.hid (by
        rw [HTK.out, snoc_flat Tx.enc]; exact hown)
      have hne7 : g7 ≠ gx := by
        rcases hwh with h | h
        · simp [Value.ownBlock] at h; omega
        · rw [h]; (first | omega | (simp only [World.size_alloc]; omega))
      have HX7 := Lib.hid (HX.out.kept hgr (.inr (by simp [Value.ownBlock]; omega)))
      have hgw7 : gx < w7.heap.size := Nat.lt_of_lt_of_le (by (first | omega | (simp only [World.size_alloc]; omega))) hgr.size
      clear hown hgr hwh KN HO hb HX HTK
      go_wp2
      go_roundw
      case rel => exact ⟨k + 1, g7, cap7, by omega, by go_num, by go_num, hne7, hgw7, HO7, HX7, hb7⟩
      case measure => simp [intOf]; omega
    · obtain rfl : k = m := by omega
      have hO := HO.out
      rw [List.take_of_length_le (by rw [List.length_map]; omega)] at hO
      have HON := Lib.hid hO
      have HL : Hid ((xs.map sm).length = k) := Lib.hid (by rw [List.length_map]; exact hxsl)
      clear hO HO
      go_wp2
      go_ret
      exact ⟨g1, cap, by rw [HL.out]; rfl, by rw [HL.out]; exact HON.out, hb⟩
/-- what WordsFormed returns -/
def WordsPost (b : Brd) (p : Ply) (w : World) (e : Ending) (w' : World) : Prop :=
  if b.okPlay p then ∃ g cap, e = .returned (.tuple #[.slice (some ⟨g, 0, none⟩) (b.words p).length cap, .int .i64 0]) ∧ w'.ownsRow w.heap.size 9 1 (.slice (some ⟨g, 0, none⟩) (b.words p).length cap) (b.words p).length ((b.words p).flatMap Tx.enc) ∧ Below w.heap.size w w'
  else e = .returned (.tuple #[.slice none 0 0, .int .i64 1]) ∧ Below w.heap.size w w'
theorem words_no {b : Brd} {p : Ply} {w : World} (h : b.okPlay p = false) (e : Ending) (w' : World) (k : e = .returned (.tuple #[.slice none 0 0, .int .i64 1]) ∧ Below w.heap.size w w') : WordsPost b p w e w' := by
  unfold WordsPost
  rw [h]
  exact k
theorem words_yes {b : Brd} {p : Ply} {w : World} (h : b.okPlay p = true) (e : Ending) (w' : World) (k : ∃ g cap, e = .returned (.tuple #[.slice (some ⟨g, 0, none⟩) (b.words p).length cap, .int .i64 0]) ∧ w'.ownsRow w.heap.size 9 1 (.slice (some ⟨g, 0, none⟩) (b.words p).length cap) (b.words p).length ((b.words p).flatMap Tx.enc) ∧ Below w.heap.size w w') : WordsPost b p w e w' := by
  unfold WordsPost
  rw [h]
  exact k
set_option maxRecDepth 100000 in
set_option maxHeartbeats 2000000 in
theorem specWordsFormed_any (b : Brd) (p : Ply) (w : World) (hf : b.fit) (hp : p.fit) :
    Calls Tryz.prog 46 #[.agg #[.int .i64 b.size, .string b.premium, .string b.cells], .agg #[.int .i64 p.row, .int .i64 p.col, .bool p.down, .string p.word]] w (WordsPost b p w) := by
  obtain ⟨w2, hw2⟩ : ∃ w2, w2 = (w.alloc (.cells #[.int .i64 b.size, .string b.premium, .string b.cells] 25)).alloc (.cells #[.int .i64 p.row, .int .i64 p.col, .bool p.down, .string p.word] 30) := ⟨_, rfl⟩
  have hb : Below w.heap.size w w2 := by rw [hw2]; exact ((Below.refl _ _).alloc (Nat.le_refl _) _).alloc (by simp) _
  have HG : Hid (BAt w2 w.heap.size 0 b) := by
    rw [hw2]
    exact Lib.hid ((BAt.new w b 25).kept ((Below.refl _ _).alloc (Nat.le_refl _) _))
  have V0 : Hid (VarAt w2 (w.heap.size + 1) 30 [.int .i64 p.row, .int .i64 p.col, .bool p.down, .string p.word]) := by
    rw [hw2]
    have := VarAt.new (w.alloc (.cells #[.int .i64 b.size, .string b.premium, .string b.cells] 25)) 30 [.int .i64 p.row, .int .i64 p.col, .bool p.down, .string p.word]
    simp only [World.size_alloc] at this
    exact Lib.hid this
  have HW2 := Lib.hid hw2
  clear hw2
  cases hk : b.okPlay p with
  | false =>
    refine Calls.mono (R := fun e w' => e = .returned (.tuple #[.slice none 0 0, .int .i64 1]) ∧ Below w.heap.size w w') ?_ (words_no hk)
    go_enter Tryz.func46, Tryz.ntmps46
    go_upto_region 1 with fail
    rw [← HW2.out]
    clear HW2
    have c0 := V0.out.cell (i := 0) rfl
    have c1 := V0.out.cell (i := 1) rfl
    have c2 := V0.out.cell (i := 2) rfl
    have c3 := V0.out.cell (i := 3) rfl
    go_wp2_with fail
    refine (l12Ok_any b p w.heap.size 0 _ HG.out hf hp).mono ?_
    rintro e w3 ⟨rfl, hd⟩
    rw [hk]
    have hb2 := hb.trans (hd.mono hb.size)
    clear hd hk
    go_wp2
    go_ret2
    exact ⟨rfl, hb2⟩
  | true =>
    obtain ⟨n, hpg⟩ := okPlay_good hk
    have HPG := Lib.hid hpg
    clear hpg
    refine Calls.mono (R := fun e w' => ∃ g cap, e = .returned (.tuple #[.slice (some ⟨g, 0, none⟩) (b.words p).length cap, .int .i64 0]) ∧ w'.ownsRow w.heap.size 9 1 (.slice (some ⟨g, 0, none⟩) (b.words p).length cap) (b.words p).length ((b.words p).flatMap Tx.enc) ∧ Below w.heap.size w w') ?_ (words_yes hk)
    go_enter Tryz.func46, Tryz.ntmps46
    go_upto_region 1 with fail
    rw [← HW2.out]
    clear HW2
    have c0 := V0.out.cell (i := 0) rfl
    have c1 := V0.out.cell (i := 1) rfl
    have c2 := V0.out.cell (i := 2) rfl
    have c3 := V0.out.cell (i := 3) rfl
    go_wp2_with fail
    refine (l12Ok_any b p w.heap.size 0 _ HG.out hf hp).mono ?_
    rintro e w3 ⟨rfl, hd⟩
    rw [hk]
    clear hk
    replace hb := hb.trans (hd.mono hb.size)
    replace c0 := cell_kept c0 hd
    replace c1 := cell_kept c1 hd
    replace c2 := cell_kept c2 hd
    replace c3 := cell_kept c3 hd
    replace HG := Lib.hid (HG.out.kept hd)
    clear hd
    have hz := hb.size
    go_wp2_with fail
    refine (l12Words_any b p n w.heap.size 0 _ HG.out HPG.out).mono ?_
    rintro e w4 ⟨g1, cap, rfl, hown, hd⟩
    have HO := Lib.hid (own_mono hown (show w.heap.size ≤ _ by omega))
    have hb2 := hb.trans (hd.mono hb.size)
    clear hown hd c0 c1 c2 c3
    go_wp2
    go_ret2
    exact ⟨g1, cap, rfl, HO.out, hb2⟩
end Go.Proofs.YtjdcdhhbgijaoaaGreatDoor
