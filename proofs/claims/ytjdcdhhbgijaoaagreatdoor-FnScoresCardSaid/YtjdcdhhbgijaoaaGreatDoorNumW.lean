/- Contract: the reference's decimal form of a number. No condition but that the number is an · Contract: the reference's parts of a text between bytes. For every text of at most 2^20 by · Contract: the reference's number of a text (at most 18 digits, in decimal form). For every -/
import Derived.Test.YtjdcdhhbgijaoaaGreatDoorVar
import Derived.Test.YtjdcdhhbgijaoaaGreatDoorTbA
import Derived.Lib.ItoaLen
import Derived.Handy
import Derived.OwnWalk
import Derived.Deep.DeepMust
import Derived.Laws.AppendOwn
import Derived.Test.YtjdcdhhbgijaoaaGreatDoorSplI
import Derived.Test.YtjdcdhhbgijaoaaGreatDoorFrame
import Derived.Deep.QuietTactic
import Derived.BigQuiet
import Derived.Deep.CutBlock
import Derived.Deep.DeepCutAuto
namespace Go.Proofs.YtjdcdhhbgijaoaaGreatDoor
open Go.ChangeShapes Go.WideShapes Go.ChangeAt Go.RowKit Go.Sort

/-- the digits that are still to come, and those that are there -/
def tailOf (u : Nat) (ds : List UInt8) : List UInt8 := if u = 0 then ds else Lib.decDigits u ++ ds
theorem tail_step {u : Nat} (h : 0 < u) (ds : List UInt8) : tailOf (u / 10) (UInt8.ofNat (48 + u % 10) :: ds) = tailOf u ds := by
  unfold tailOf
  rw [if_neg (show ¬ u = 0 by omega)]
  by_cases h10 : u < 10
  · rw [if_pos (by omega), Lib.decDigits, dif_pos h10, Nat.mod_eq_of_lt h10]
    rfl
  · rw [if_neg (by omega)]
    conv => rhs; rw [Lib.decDigits, dif_neg h10]
    rw [List.append_assoc]
    rfl
theorem byte_digit {d : Nat} (h : d < 10) : ((UInt8.ofNat (48 + d)).toNat : Int) = 48 + d := by
  rw [UInt8.toNat_ofNat']; omega
theorem tdiv_neg (u : Nat) : (-(u : Int)).tdiv 10 = -((u / 10 : Nat) : Int) := by
  rw [Int.neg_tdiv]; rfl
theorem tmod_neg (u : Nat) : (-(u : Int)).tmod 10 = -((u % 10 : Nat) : Int) := by
  rw [Int.neg_tmod]; rfl
theorem tail_len {u : Nat} {ds l : List UInt8} (h : tailOf u ds = l) : ds.length ≤ l.length := by
  subst h
  unfold tailOf
  split
  · exact Nat.le_refl _
  · rw [List.length_append]; omega
theorem itoa_pos {u : Nat} (h : 0 < u) : tailOf u [] = Lib.itoa (u : Int) := by
  unfold tailOf
  rw [if_neg (by omega), Lib.itoa_nonneg, List.append_nil]
theorem itoa_neg' {u : Nat} (h : 0 < u) : 45 :: tailOf u [] = Lib.itoa (-(u : Int)) := by
  unfold tailOf
  rw [if_neg (by omega), Lib.itoa_neg u h, List.append_nil]
theorem itoa_len_pos (n : Int) : 0 < (Lib.itoa n).length := by
  unfold Lib.itoa
  split
  · simp
  · rw [Lib.decDigits_length]; have := Lib.nDigits_pos n.toNat; omega
theorem row_cons {w : World} {base : Nat} {v : Value} {ds : List UInt8} {z : Int} {c : UInt8} (hz : (c.toNat : Int) = z) (h : w.ownsRow base 5 1 v (1 + ds.length) ([.int .u8 z] ++ ds.flatMap U8.enc)) :
    w.ownsRow base 5 1 v (c :: ds).length ((c :: ds).flatMap U8.enc) := by
  subst hz
  rw [List.length_cons, Nat.add_comm]
  exact h
set_option maxRecDepth 100000 in
set_option maxHeartbeats 2000000 in
theorem l01Dec_pos (U : Nat) (h0 : 0 < U) (h1 : U ≤ 9223372036854775807) (w : World) : Calls Tryz.prog 221 #[.int .i64 (U : Int)] w (StrPost w (Lib.itoa (U : Int))) := by
  obtain ⟨i0, hi0, hi1, hi2, hi3⟩ := info_parts infoByte
  have HLEN : Hid ((tailOf U []).length ≤ 21) := Lib.hid (by rw [itoa_pos h0]; exact Lib.itoa_length_le _ (by omega) (by omega))
  have hb0 : Below w.heap.size w (w.alloc (.cells #[] 5)) := (Below.refl _ _).alloc (Nat.le_refl _) _
  have HR := Lib.hid (World.ownsRow_made (base := w.heap.size) (e := 5) (size := 1) w #[] 0 (by simp) (by unfold maxLen; omega) rfl)
  go_enter Tryz.func221, Tryz.ntmps221
  go_wp2_with fail
  go_loopw [3, 4] (fun ov kv wr => ∃ (u : Nat) (ds : List UInt8) (g cap : Nat), kv = .int .i64 (u : Int) ∧ u ≤ 9223372036854775807 ∧ ov = .slice (some ⟨g, 0, none⟩) ds.length cap ∧ Hid (tailOf u ds = tailOf U []) ∧ Hid (wr.ownsRow w.heap.size 5 1 (.slice (some ⟨g, 0, none⟩) ds.length cap) ds.length (ds.flatMap U8.enc)) ∧ Below w.heap.size w wr) (fun _ kv _ => (intOf kv).toNat)
  case atStart => exact ⟨U, [], _, _, rfl, h1, rfl, Lib.hid rfl, HR, hb0⟩
  case round =>
    clear HR hb0
    obtain ⟨u, ds, g, cap, rfl, hu, rfl, HT, HR, hb⟩ := hrel
    have hl : ds.length ≤ 21 := Nat.le_trans (tail_len HT.out) HLEN.out
    by_cases hlt : 0 < u
    · have e1 : ((u : Int) != 0) = true := by simp; omega
      have e2 : 0 ≤ (u : Int) % 10 := by omega
      have e3 : (u : Int) % 10 ≤ 9 := by omega
      have hx : Below wr.heap.size wr (wr.alloc (.cells #[.int .u8 (48 + (u : Int) % 10)] 5)) := (Below.refl _ _).alloc (Nat.le_refl _) _
      have HV := Lib.hid (own_new_byte wr (48 + (u : Int) % 10) 5 w.heap.size hb.size)
      have HS := Lib.hid (own_news0 (own_below HR.out hx))
      have hz := hb.size
      replace hb := hb.trans (hx.mono hb.size)
      have HNX := Lib.hid (tail_step hlt ds)
      have HBD := Lib.hid (byte_digit (show u % 10 < 10 by omega))
      clear hx
      go_wp2_with (at_builtin; go_must (refine wpList_append_own _ rfl (.tmp 21) (.tmp 22) 22 rfl w.heap.size 5 i0 _ 1 1 Tryz.underlying22 hi0 hi1 hi2 hi3 rfl (by decide) _ 1 [.int .u8 (48 + (u : Int) % 10)] (by rfl) HV.out ⟨g, 0, none⟩ ds.length cap (ds.flatMap U8.enc) (by rfl) (by rw [u8_flat]; simp) HS.out (u8_one ds) ?c1 ?c2 ?c3 ?_))
      case c1 => unfold maxLen; omega
      case c2 => omega
      case c3 => simp; omega
      intro v' w6 hown6 hgr6 hnil
      obtain ⟨g6, cap6, rfl, _⟩ := own_some hown6 hnil
      replace hb := hb.grown hgr6 (by simp; omega) (fun q e => by simp [Value.ownBlock] at e; omega)
      have HR6 := Lib.hid (row_cons HBD.out hown6)
      have HL6 : Hid ((UInt8.ofNat (48 + u % 10) :: ds).length = 1 + ds.length) := Lib.hid (by simp; omega)
      clear hown6 hgr6 hnil HV HS HR e1 e2 e3
      go_wp2
      go_roundw
      case rel => exact ⟨u / 10, UInt8.ofNat (48 + u % 10) :: ds, g6, cap6, by go_num, by omega, by rw [HL6.out], Lib.hid (HNX.out.trans HT.out), by have h7 := HR6.out; rw [HL6.out] at h7 ⊢; exact Lib.hid h7, hb⟩
      case measure => simp [intOf]; omega
    · obtain rfl : u = 0 := by omega
      have hds : ds = tailOf U [] := HT.out
      have hd0 : 0 < ds.length := by rw [hds, itoa_pos h0]; exact itoa_len_pos _
      have e1 : ((ds.length : Int) == 0) = false := beq_eq_false_iff_ne.2 (by omega)
      have hcv := own_bytes HR.out rfl
      have HI := Lib.hid (hds.trans (itoa_pos h0))
      clear hds HT HR
      go_wp2
      go_ret
      exact ⟨by rw [HI.out]; rfl, hb⟩
set_option maxRecDepth 100000 in
set_option maxHeartbeats 2000000 in
theorem l01Dec_neg (U : Nat) (h0 : 0 < U) (h1 : U ≤ 9223372036854775808) (w : World) : Calls Tryz.prog 221 #[.int .i64 (-(U : Int))] w (StrPost w (Lib.itoa (-(U : Int)))) := by
  obtain ⟨i0, hi0, hi1, hi2, hi3⟩ := info_parts infoByte
  have HLEN : Hid ((tailOf U []).length ≤ 21) := Lib.hid (by have := Lib.itoa_length_le (-(U : Int)) (by omega) (by omega); rw [← itoa_neg' h0] at this; simp at this; omega)
  have hb0 : Below w.heap.size w (w.alloc (.cells #[] 5)) := (Below.refl _ _).alloc (Nat.le_refl _) _
  have HR := Lib.hid (World.ownsRow_made (base := w.heap.size) (e := 5) (size := 1) w #[] 0 (by simp) (by unfold maxLen; omega) rfl)
  go_enter Tryz.func221, Tryz.ntmps221
  go_wp2_with fail
  go_loopw [3, 4] (fun ov kv wr => ∃ (u : Nat) (ds : List UInt8) (g cap : Nat), kv = .int .i64 (-(u : Int)) ∧ u ≤ 9223372036854775808 ∧ ov = .slice (some ⟨g, 0, none⟩) ds.length cap ∧ Hid (tailOf u ds = tailOf U []) ∧ Hid (wr.ownsRow w.heap.size 5 1 (.slice (some ⟨g, 0, none⟩) ds.length cap) ds.length (ds.flatMap U8.enc)) ∧ Below w.heap.size w wr) (fun _ kv _ => (intOf kv).natAbs)
  case atStart => exact ⟨U, [], _, _, rfl, h1, rfl, Lib.hid rfl, HR, hb0⟩
  case round =>
    clear HR hb0
    obtain ⟨u, ds, g, cap, rfl, hu, rfl, HT, HR, hb⟩ := hrel
    have hl : ds.length ≤ 21 := Nat.le_trans (tail_len HT.out) HLEN.out
    by_cases hlt : 0 < u
    · have e1 : (-(u : Int) != 0) = true := by simp; omega
      have t1 := tdiv_neg u
      have t2 := tmod_neg u
      have HBD0 := byte_digit (show u % 10 < 10 by omega)
      rcases Nat.eq_zero_or_pos (u % 10) with hm | hm
      · have HBD : Hid (((UInt8.ofNat (48 + u % 10)).toNat : Int) = 48) := Lib.hid (by rw [HBD0, hm]; rfl)
        have t3 : (-(u : Int)).tmod 10 = 0 := by rw [t2, hm]; rfl
        clear t2 hm HBD0
        have hx : Below wr.heap.size wr (wr.alloc (.cells #[.int .u8 (48)] 5)) := (Below.refl _ _).alloc (Nat.le_refl _) _
        have HV := Lib.hid (own_new_byte wr (48) 5 w.heap.size hb.size)
        have HS := Lib.hid (own_news0 (own_below HR.out hx))
        have hz := hb.size
        replace hb := hb.trans (hx.mono hb.size)
        have HNX := Lib.hid (tail_step hlt ds)
        clear hx
        go_wp2_with (at_builtin; go_must (refine wpList_append_own _ rfl (.tmp 21) (.tmp 22) 22 rfl w.heap.size 5 i0 _ 1 1 Tryz.underlying22 hi0 hi1 hi2 hi3 rfl (by decide) _ 1 [.int .u8 (48)] (by rfl) HV.out ⟨g, 0, none⟩ ds.length cap (ds.flatMap U8.enc) (by rfl) (by rw [u8_flat]; simp) HS.out (u8_one ds) ?c1 ?c2 ?c3 ?_))
        case c1 => unfold maxLen; omega
        case c2 => omega
        case c3 => simp; omega
        intro v' w6 hown6 hgr6 hnil
        obtain ⟨g6, cap6, rfl, _⟩ := own_some hown6 hnil
        replace hb := hb.grown hgr6 (by simp; omega) (fun q e => by simp [Value.ownBlock] at e; omega)
        have HR6 := Lib.hid (row_cons HBD.out hown6)
        have HL6 : Hid ((UInt8.ofNat (48 + u % 10) :: ds).length = 1 + ds.length) := Lib.hid (by simp; omega)
        clear hown6 hgr6 hnil HV HS HR e1
        go_wp2
        go_roundw
        case rel => exact ⟨u / 10, UInt8.ofNat (48 + u % 10) :: ds, g6, cap6, by go_num, by omega, by rw [HL6.out], Lib.hid (HNX.out.trans HT.out), by have h7 := HR6.out; rw [HL6.out] at h7 ⊢; exact Lib.hid h7, hb⟩
        case measure => simp [intOf]; omega
      · have HBD : Hid (((UInt8.ofNat (48 + u % 10)).toNat : Int) = 48 + (u : Int) % 10) := Lib.hid (by rw [HBD0]; omega)
        have e2 : 0 < (u : Int) % 10 := by omega
        have e3 : (u : Int) % 10 ≤ 9 := by omega
        clear hm HBD0
        have hx : Below wr.heap.size wr (wr.alloc (.cells #[.int .u8 ((48 + (u : Int) % 10))] 5)) := (Below.refl _ _).alloc (Nat.le_refl _) _
        have HV := Lib.hid (own_new_byte wr ((48 + (u : Int) % 10)) 5 w.heap.size hb.size)
        have HS := Lib.hid (own_news0 (own_below HR.out hx))
        have hz := hb.size
        replace hb := hb.trans (hx.mono hb.size)
        have HNX := Lib.hid (tail_step hlt ds)
        clear hx
        go_wp2_with (at_builtin; go_must (refine wpList_append_own _ rfl (.tmp 21) (.tmp 22) 22 rfl w.heap.size 5 i0 _ 1 1 Tryz.underlying22 hi0 hi1 hi2 hi3 rfl (by decide) _ 1 [.int .u8 ((48 + (u : Int) % 10))] (by rfl) HV.out ⟨g, 0, none⟩ ds.length cap (ds.flatMap U8.enc) (by rfl) (by rw [u8_flat]; simp) HS.out (u8_one ds) ?c1 ?c2 ?c3 ?_))
        case c1 => unfold maxLen; omega
        case c2 => omega
        case c3 => simp; omega
        intro v' w6 hown6 hgr6 hnil
        obtain ⟨g6, cap6, rfl, _⟩ := own_some hown6 hnil
        replace hb := hb.grown hgr6 (by simp; omega) (fun q e => by simp [Value.ownBlock] at e; omega)
        have HR6 := Lib.hid (row_cons HBD.out hown6)
        have HL6 : Hid ((UInt8.ofNat (48 + u % 10) :: ds).length = 1 + ds.length) := Lib.hid (by simp; omega)
        clear hown6 hgr6 hnil HV HS HR e1
        go_wp2
        go_roundw
        case rel => exact ⟨u / 10, UInt8.ofNat (48 + u % 10) :: ds, g6, cap6, by go_num, by omega, by rw [HL6.out], Lib.hid (HNX.out.trans HT.out), by have h7 := HR6.out; rw [HL6.out] at h7 ⊢; exact Lib.hid h7, hb⟩
        case measure => simp [intOf]; omega
    · obtain rfl : u = 0 := by omega
      have hds : ds = tailOf U [] := HT.out
      have hd0 : 0 < ds.length := by rw [hds, itoa_pos h0]; exact itoa_len_pos _
      have e2 : -(U : Int) < 0 := by omega
      have hsz : 1 + (mkB ds).size ≤ 9223372036854775807 := by rw [mkB_size]; omega
      have e1 : ((ds.length : Int) == 0) = false := beq_eq_false_iff_ne.2 (by omega)
      have hcv := own_bytes HR.out rfl
      have HI : Hid (45 :: ds = Lib.itoa (-(U : Int))) := Lib.hid (by rw [hds]; exact itoa_neg' h0)
      clear hds HT HR
      go_wp2
      go_ret
      refine ⟨?_, hb⟩
      rw [← HI.out]
      exact congrArg (fun b => Ending.returned (.string b)) ((cat_mk ⟨#[45]⟩ (mkB ds)).trans (by rw [mkB_data]; rfl))
theorem l01Dec_zero (w : World) : Calls Tryz.prog 221 #[.int .i64 0] w (StrPost w (Lib.itoa 0)) := by
  have hb0 : Below w.heap.size w (w.alloc (.cells #[] 5)) := (Below.refl _ _).alloc (Nat.le_refl _) _
  go_enter Tryz.func221, Tryz.ntmps221
  go_wp2_with fail
  refine wp_loop_rounds 1 ?_
  rw [rounds_succ]
  have e0 : Lib.itoa 0 = [48] := by unfold Lib.itoa; rw [if_neg (by omega)]; exact Lib.decDigits_one (by decide)
  go_wp2
  go_ret
  exact ⟨by rw [e0]; rfl, hb0⟩
theorem l01Dec_any (n : Int) (h0 : -9223372036854775808 ≤ n) (h1 : n ≤ 9223372036854775807) (w : World) : Calls Tryz.prog 221 #[.int .i64 n] w (StrPost w (Lib.itoa n)) := by
  rcases Int.lt_trichotomy n 0 with h | h | h
  · obtain ⟨u, rfl⟩ : ∃ u : Nat, n = -(u : Int) := ⟨n.natAbs, by omega⟩
    exact l01Dec_neg u (by omega) (by omega) w
  · subst h
    exact l01Dec_zero w
  · obtain ⟨u, rfl⟩ : ∃ u : Nat, n = (u : Int) := ⟨n.natAbs, by omega⟩
    exact l01Dec_pos u (by omega) (by omega) w
end Go.Proofs.YtjdcdhhbgijaoaaGreatDoor
namespace Go.Proofs.YtjdcdhhbgijaoaaGreatDoor
open Go.ChangeShapes Go.WideShapes Go.ChangeAt Go.RowKit Go.Sort

theorem piece_data (s : ByteArray) (f i : Nat) : (s.extract f i).data.toList = (s.data.toList.take i).drop f := by
  rw [ByteArray.data_extract, Array.toList_extract, List.drop_take]
theorem take_byteW (s : ByteArray) (k : Nat) (h : k < s.size) : s.data.toList.take (k + 1) = s.data.toList.take k ++ [s[k]] := by
  rw [List.take_succ_eq_append_getElem (by simpa using h)]; rfl
theorem last_drop {l : List UInt8} {f i : Nat} {b : UInt8} (h : l.take (i + 1) = l.take i ++ [b]) (hf : f ≤ i) (hi : i < l.length) : (l.take (i + 1)).drop f = (l.take i).drop f ++ [b] := by
  rw [h, List.drop_append_of_le_length (by rw [List.length_take]; omega)]
set_option maxRecDepth 100000 in
set_option maxHeartbeats 2000000 in
theorem l01Split_any (s : ByteArray) (c : UInt8) (w : World) (hs : s.size ≤ 1048576) :
    Calls Tryz.prog 222 #[.string s, .int .u8 (c.toNat : Int)] w (TextsPost w ((splitL c s.data.toList).map mkB)) := by
  obtain ⟨i0, hi0, hi1, hi2, hi3⟩ := info_parts infoTx
  have hsl : s.data.toList.length = s.size := Array.length_toList
  have HSL := Lib.hid hsl
  clear hsl
  have hb0 : Below w.heap.size w (w.alloc (.cells #[] 9)) := (Below.refl _ _).alloc (Nat.le_refl _) _
  have HR := Lib.hid (World.ownsRow_made (base := w.heap.size) (e := 9) (size := 1) w #[] 0 (by simp) (by unfold maxLen; omega) rfl)
  go_enter Tryz.func222, Tryz.ntmps222
  go_wp2_with fail
  go_loopw [5, 6, 7] (fun ov fv iv wr => ∃ (i f : Nat) (xs : List ByteArray) (g cap : Nat), i ≤ s.size ∧ f ≤ i ∧ iv = .int .i64 i ∧ fv = .int .i64 f ∧ ov = .slice (some ⟨g, 0, none⟩) xs.length cap ∧ xs.length ≤ i ∧
    Hid (splitL c (s.data.toList.take i) = xs.map (·.data.toList) ++ [(s.data.toList.take i).drop f]) ∧ Hid (wr.ownsRow w.heap.size 9 1 (.slice (some ⟨g, 0, none⟩) xs.length cap) xs.length (xs.flatMap Tx.enc)) ∧ Below w.heap.size w wr) (fun _ _ iv _ => s.size - (intOf iv).toNat)
  case atStart => exact ⟨0, 0, [], _, _, Nat.zero_le _, Nat.le_refl _, rfl, rfl, rfl, Nat.le_refl _, Lib.hid rfl, HR, hb0⟩
  case round =>
    clear HR hb0
    obtain ⟨i, f, xs, g, cap, hi, hf, rfl, rfl, rfl, hxl, HT, HR, hb⟩ := hrel
    by_cases hlt : i < s.size
    · have HTB := Lib.hid (take_byteW s i hlt)
      by_cases hc : s[i] = c
      · have e1 : ((s[i].toNat : Int) == (c.toNat : Int)) = true := by rw [hc]; simp
        have HP := Lib.hid (piece_data s f i)
        have HN : Hid (splitL c (s.data.toList.take (i + 1)) = (xs ++ [s.extract f i]).map (·.data.toList) ++ [(s.data.toList.take (i + 1)).drop (i + 1)]) := Lib.hid (by
          have e9 : (s.data.toList.take (i + 1)).drop (i + 1) = [] := List.drop_eq_nil_of_le (List.length_take_le _ _)
          rw [e9, HTB.out, hc, split_snoc_same, HT.out, List.map_append, List.map_cons, List.map_nil, HP.out])
        clear hc HTB HP HT
        have hx : Below wr.heap.size wr (wr.alloc (.cells #[.string (s.extract f i)] 9)) := (Below.refl _ _).alloc (Nat.le_refl _) _
        have KN := Lib.hid (new_tx wr (s.extract f i) 9)
        have hsz := hb.size
        replace HR := Lib.hid (own_below HR.out hx)
        replace hb := hb.trans (hx.mono hb.size)
        clear hx
        go_wp2_with (at_builtin; go_must (refine wpList_append_own _ rfl (.tmp 20) (.tmp 25) 26 rfl w.heap.size 9 i0 _ 1 16 Tryz.underlying26 hi0 hi1 hi2 hi3 rfl (by decide) _ xs.length (xs.flatMap Tx.enc) (by rfl) HR.out ⟨wr.heap.size, 0, none⟩ 1 1 (Tx.enc (s.extract f i)) (by rfl) rfl KN.out (tx_one (s.extract f i)) ?c1 ?c2 ?c3 ?_))
        case c1 => unfold maxLen; omega
        case c2 => omega
        case c3 => simp; omega
        intro v' w7 hown hgr hnil
        obtain ⟨g7, cap7, rfl, _⟩ := own_some hown (fun e => by have h := hnil; rw [e] at h; simp at h)
        have hb7 := hb.grown hgr hb.size (fun q e => (HR.out.lt q e).1)
        have HL7 : Hid ((xs ++ [(s.extract f i)]).length = xs.length + 1) := Lib.hid (by simp)
        have HR7 := Lib.hid (own_as hown (flat_snoc Tx.enc xs _))
        clear hown hgr hnil KN HR hb
        go_wp2
        go_roundw
        case rel => exact ⟨i + 1, i + 1, xs ++ [s.extract f i], g7, cap7, by omega, Nat.le_refl _, by go_num, by go_num, by rw [HL7.out], by rw [HL7.out]; omega, HN, by have h := HR7.out; rw [HL7.out]; exact Lib.hid h, hb7⟩
        case measure => simp [intOf]; omega
      · have e1 : ((s[i].toNat : Int) == (c.toNat : Int)) = false := beq_eq_false_iff_ne.2 (fun e => hc (UInt8.toNat_inj.1 (by omega)))
        have HN : Hid (splitL c (s.data.toList.take (i + 1)) = xs.map (·.data.toList) ++ [(s.data.toList.take (i + 1)).drop f]) := Lib.hid (by
          rw [last_drop HTB.out hf (by rw [HSL.out]; exact hlt), HTB.out]
          exact split_snoc_other hc HT.out)
        clear hc HTB HT
        go_wp2
        go_roundw
        case rel => exact ⟨i + 1, f, xs, g, cap, by omega, by omega, by go_num, rfl, rfl, by omega, HN, HR, hb⟩
        case measure => simp [intOf]; omega
    · obtain rfl : i = s.size := by omega
      have HP := Lib.hid (piece_data s f s.size)
      have HE : Hid ((splitL c s.data.toList).map mkB = xs ++ [s.extract f s.size]) := Lib.hid (by
        have h := HT.out
        rw [List.take_of_length_le (by rw [HSL.out]; exact Nat.le_refl _)] at h
        rw [h, List.map_append, List.map_map, List.map_cons, List.map_nil]
        have h2 := HP.out
        rw [List.take_of_length_le (by rw [HSL.out]; exact Nat.le_refl _)] at h2
        rw [← h2, mkB_of]
        congr 1
        rw [show (mkB ∘ fun x : ByteArray => x.data.toList) = id from funext mkB_of, List.map_id])
      clear HT HP
      have hx : Below wr.heap.size wr (wr.alloc (.cells #[.string (s.extract f s.size)] 9)) := (Below.refl _ _).alloc (Nat.le_refl _) _
      have KN := Lib.hid (new_tx wr (s.extract f s.size) 9)
      have hsz := hb.size
      replace HR := Lib.hid (own_below HR.out hx)
      replace hb := hb.trans (hx.mono hb.size)
      clear hx
      go_wp2_with (at_builtin; go_must (refine wpList_append_own _ rfl (.tmp 29) (.tmp 33) 26 rfl w.heap.size 9 i0 _ 1 16 Tryz.underlying26 hi0 hi1 hi2 hi3 rfl (by decide) _ xs.length (xs.flatMap Tx.enc) (by rfl) HR.out ⟨wr.heap.size, 0, none⟩ 1 1 (Tx.enc (s.extract f s.size)) (by rfl) rfl KN.out (tx_one (s.extract f s.size)) ?c1 ?c2 ?c3 ?_))
      case c1 => unfold maxLen; omega
      case c2 => omega
      case c3 => simp; omega
      intro v' w7 hown hgr hnil
      obtain ⟨g7, cap7, rfl, _⟩ := own_some hown (fun e => by have h := hnil; rw [e] at h; simp at h)
      have hb7 := hb.grown hgr hb.size (fun q e => (HR.out.lt q e).1)
      have HL7 : Hid ((xs ++ [(s.extract f s.size)]).length = xs.length + 1) := Lib.hid (by simp)
      have HR7 := Lib.hid (own_as hown (flat_snoc Tx.enc xs _))
      clear hown hgr hnil KN HR hb
      go_wp2
      go_ret
      refine ⟨g7, cap7, ?_, ?_, hb7⟩
      · rw [HE.out, HL7.out]; rfl
      · rw [HE.out, HL7.out]; exact HR7.out
end Go.Proofs.YtjdcdhhbgijaoaaGreatDoor
namespace Go.Proofs.YtjdcdhhbgijaoaaGreatDoor
open Go.ChangeShapes Go.WideShapes Go.ChangeAt Go.RowKit Go.Sort

/-- a number, or none, in new memory -/
def NumPost (o : Option Int) (w : World) (e : Ending) (w' : World) : Prop := e = .returned (.tuple #[.int .i64 (o.getD 0), .bool o.isSome]) ∧ Below w.heap.size w w'
theorem digit_val {c : UInt8} (h : digitB c.toNat = true) : Lib.digitVal c = some (c.toNat - 48) ∧ 48 ≤ c.toNat ∧ c.toNat ≤ 57 := by
  simp only [digitB, Bool.and_eq_true, decide_eq_true_eq] at h
  have h1 : 48 ≤ c.toNat ∧ c.toNat ≤ 57 := by omega
  exact ⟨if_pos h1, h1⟩
theorem digit_none {c : UInt8} (h : digitB c.toNat = false) : Lib.digitVal c = none := by
  simp only [digitB, Bool.and_eq_false_iff, decide_eq_false_iff_not] at h
  exact if_neg (by omega)
theorem dec_stop {l : List UInt8} {i m : Nat} {c : UInt8} (h : Lib.decFrom 0 (l.take i) = some m) (hc : l[i]? = some c) (hd : Lib.digitVal c = none) : Lib.decFrom 0 l = none := by
  have hlt := (List.getElem?_eq_some_iff.1 hc).1
  have e : l = l.take i ++ c :: l.drop (i + 1) := by
    have := List.take_append_drop i l
    rw [List.drop_eq_getElem_cons hlt, (List.getElem?_eq_some_iff.1 hc).2] at this
    exact this.symm
  rw [e, decFrom_append _ _ _ _ h]
  simp only [Lib.decFrom, hd]
theorem spec_out {l : List UInt8} (h : (dropMinus l).length < 1 ∨ 18 < (dropMinus l).length) : specNum l = none := if_pos h
theorem spec_none {l t : List UInt8} (ht : t = dropMinus l) (h : Lib.decFrom 0 t = none) : specNum l = none := by
  subst ht
  unfold specNum
  split
  · rfl
  · rw [h]
theorem spec_at {l t : List UInt8} {m : Nat} {z : Int} (ht : t = dropMinus l) (h1 : 1 ≤ t.length) (h2 : t.length ≤ 18) (h : Lib.decFrom 0 t = some m) (hz : z = if t.length < l.length then -(m : Int) else m) : specNum l = if Lib.itoa z = l then some z else none := by
  subst ht hz
  unfold specNum
  rw [if_neg (by omega), h]
set_option maxRecDepth 100000 in
set_option maxHeartbeats 4000000 in
theorem l01Number_any (s : ByteArray) (w : World) (hs : s.size ≤ 1048576) : Calls Tryz.prog 223 #[.string s] w (NumPost (specNum s.data.toList) w) := by
  have hsl : s.data.toList.length = s.size := Array.length_toList
  have HSL := Lib.hid hsl
  by_cases h0 : s.size = 0
  · have he : s.data.toList = [] := List.length_eq_zero_iff.1 (by omega)
    have HN : Hid (specNum s.data.toList = none) := Lib.hid (by rw [he]; rfl)
    have hse : s.toList = [] := by rw [ByteArray.toList_eq, he]
    have hb : Below w.heap.size w w := Below.refl _ _
    clear he hsl
    go_enter Tryz.func223, Tryz.ntmps223
    go_wp2
    go_ret2
    exact ⟨by rw [HN.out]; rfl, hb⟩
  · have hpos : 0 < s.size := by omega
    have hne : s.toList.isEmpty = false := by
      rw [ByteArray.toList_eq]
      cases hl : s.data.toList with
      | nil => rw [hl] at hsl; simp at hsl; omega
      | cons a b => rfl
    have hcons : s.data.toList = s[0] :: s.data.toList.drop 1 := by
      have := List.drop_eq_getElem_cons (l := s.data.toList) (i := 0) (by omega)
      exact this
    by_cases hm : s[0] = 45
    · have e1 : ((s[0].toNat : Int) == 45) = true := by rw [hm]; rfl
      have hdm : dropMinus s.data.toList = s.data.toList.drop 1 := by
        conv => lhs; rw [hcons]
        exact if_pos hm
      have HD : Hid ((s.extract 1 s.size).data.toList = dropMinus s.data.toList) := Lib.hid (by rw [hdm, Lib.extract_to_end])
      have hxs : (s.extract 1 s.size).size = s.size - 1 := by simp [ByteArray.size_extract]
      have HTS : Hid ((s.extract 1 s.size).data.toList.length = (s.extract 1 s.size).size) := Lib.hid Array.length_toList
      have htlt : (s.extract 1 s.size).size < s.size := by omega
      clear hdm hcons hm hsl h0 hxs
      go_enter Tryz.func223, Tryz.ntmps223
      go_upto_region 4 with fail
      generalize s.extract 1 s.size = t at *
      by_cases hsz : t.size < 1 ∨ 18 < t.size
      · have HN := Lib.hid (spec_out (l := s.data.toList) (by rw [← HD.out, HTS.out]; exact hsz))
        rcases hsz with hz | hz
        · (try (exfalso; omega))
          all_goals
            go_wp2
            go_ret2
            exact ⟨by rw [HN.out]; rfl, (Below.refl _ _)⟩
        · have hz1 : ¬ t.size < 1 := by omega
          go_wp2
          go_ret2
          exact ⟨by rw [HN.out]; rfl, (Below.refl _ _)⟩
      · have hz1 : ¬ t.size < 1 := by omega
        have hz2 : ¬ 18 < t.size := by omega
        clear hsz
        go_wp2_with fail
        go_loopw [5, 6] (fun nv iv wr => ∃ (i m : Nat), i ≤ t.size ∧ iv = .int .i64 i ∧ nv = .int .i64 m ∧ Hid (Lib.decFrom 0 (t.data.toList.take i) = some m) ∧ w = wr) (fun _ iv _ => t.size - (intOf iv).toNat)
        case atStart => exact ⟨0, 0, Nat.zero_le _, rfl, rfl, Lib.hid rfl, rfl⟩
        case round =>
          obtain ⟨i, m, hi, rfl, rfl, HM, rfl⟩ := hrel
          by_cases hlt : i < t.size
          · have hm := Lib.decFrom_take_lt HM.out (by omega)
            cases hdg : digitB (t[i].toNat : Int) with
            | false =>
              have HN := Lib.hid (spec_none HD.out (dec_stop HM.out (c := t[i]) (by rw [List.getElem?_eq_getElem (by rw [HTS.out]; exact hlt)]; rfl) (digit_none hdg)))
              have HDG := Lib.hid (l01Digit_any (t[i].toNat : Int) w)
              rw [hdg] at HDG
              clear hdg hm
              go_wp2_with fail
              refine HDG.out.mono ?_
              rintro e w1 ⟨rfl, rfl⟩
              go_wp2
              go_ret2
              exact ⟨by rw [HN.out]; rfl, (Below.refl _ _)⟩
            | true =>
              obtain ⟨g1, g2, g3⟩ := digit_val hdg
              have HS := Lib.hid (Lib.decFrom_take t.data.toList i 0 m t[i] _ HM.out (by rw [List.getElem?_eq_getElem (by rw [HTS.out]; exact hlt)]; rfl) g1)
              have HDG := Lib.hid (l01Digit_any (t[i].toNat : Int) w)
              rw [hdg] at HDG
              clear hdg g1
              have hz := hz1
              go_wp2_with fail
              refine HDG.out.mono ?_
              rintro e w1 ⟨rfl, rfl⟩
              go_wp2
              go_roundw
              case rel => exact ⟨i + 1, m * 10 + (t[i].toNat - 48), by omega, by go_num, by go_num, HS, trivial⟩
              case measure => simp [intOf]; omega
          · obtain rfl : i = t.size := by omega
            have hmm := HM.out
            rw [List.take_of_length_le (by rw [HTS.out]; exact Nat.le_refl _)] at hmm
            have hm := Lib.decFrom_lt18 hmm (by rw [HTS.out]; omega)
            have HSP := Lib.hid (spec_at (l := s.data.toList) (z := (-(m : Int))) HD.out (by rw [HTS.out]; omega) (by rw [HTS.out]; omega) hmm (by (first | rw [HTS.out, HSL.out] | rw [HTS.out]); (rw [if_pos htlt])))
            have HDE := Lib.hid (l01Dec_any (-(m : Int)) (by omega) (by omega) w)
            clear hmm
            by_cases hq : Lib.itoa (-(m : Int)) = s.data.toList
            · have HN : Hid (specNum s.data.toList = some (-(m : Int))) := Lib.hid (by rw [HSP.out, if_pos hq])
              have hq1 : ((mkB (Lib.itoa (-(m : Int)))).toList != s.toList) = false := by rw [mkB_list, ByteArray.toList_eq, hq]; simp
              have hq2 : ((mkB (Lib.itoa (-(m : Int)))).toList == s.toList) = true := by rw [mkB_list, ByteArray.toList_eq, hq]; simp
              clear hq
              go_wp2_with fail
              refine HDE.out.mono ?_
              rintro e w1 ⟨rfl, hd⟩
              go_wp2
              go_ret2
              exact ⟨by rw [HN.out]; rfl, hd⟩
            · have HN : Hid (specNum s.data.toList = none) := Lib.hid (by rw [HSP.out, if_neg hq])
              have hq1 : ((mkB (Lib.itoa (-(m : Int)))).toList != s.toList) = true := by rw [mkB_list, ByteArray.toList_eq]; simpa using hq
              have hq2 : ((mkB (Lib.itoa (-(m : Int)))).toList == s.toList) = false := by rw [mkB_list, ByteArray.toList_eq]; simpa using hq
              clear hq
              go_wp2_with fail
              refine HDE.out.mono ?_
              rintro e w1 ⟨rfl, hd⟩
              go_wp2
              go_ret2
              exact ⟨by rw [HN.out]; rfl, hd⟩
    · have e1 : ((s[0].toNat : Int) == 45) = false := beq_eq_false_iff_ne.2 (fun e => hm (UInt8.toNat_inj.1 (by have h45 : (45 : UInt8).toNat = 45 := rfl; omega)))
      have hdm : dropMinus s.data.toList = s.data.toList := by
        conv => lhs; rw [hcons]
        exact (if_neg hm).trans hcons.symm
      have HD : Hid (s.data.toList = dropMinus s.data.toList) := Lib.hid hdm.symm
      have HTS := HSL
      clear hdm hcons hm hsl h0
      go_enter Tryz.func223, Tryz.ntmps223
      go_upto_region 4 with fail
      by_cases hsz : s.size < 1 ∨ 18 < s.size
      · have HN := Lib.hid (spec_out (l := s.data.toList) (by rw [← HD.out, HTS.out]; exact hsz))
        rcases hsz with hz | hz
        · (try (exfalso; omega))
          all_goals
            go_wp2
            go_ret2
            exact ⟨by rw [HN.out]; rfl, (Below.refl _ _)⟩
        · have hz1 : ¬ s.size < 1 := by omega
          go_wp2
          go_ret2
          exact ⟨by rw [HN.out]; rfl, (Below.refl _ _)⟩
      · have hz1 : ¬ s.size < 1 := by omega
        have hz2 : ¬ 18 < s.size := by omega
        clear hsz
        go_wp2_with fail
        go_loopw [5, 6] (fun nv iv wr => ∃ (i m : Nat), i ≤ s.size ∧ iv = .int .i64 i ∧ nv = .int .i64 m ∧ Hid (Lib.decFrom 0 (s.data.toList.take i) = some m) ∧ w = wr) (fun _ iv _ => s.size - (intOf iv).toNat)
        case atStart => exact ⟨0, 0, Nat.zero_le _, rfl, rfl, Lib.hid rfl, rfl⟩
        case round =>
          obtain ⟨i, m, hi, rfl, rfl, HM, rfl⟩ := hrel
          by_cases hlt : i < s.size
          · have hm := Lib.decFrom_take_lt HM.out (by omega)
            cases hdg : digitB (s[i].toNat : Int) with
            | false =>
              have HN := Lib.hid (spec_none HD.out (dec_stop HM.out (c := s[i]) (by rw [List.getElem?_eq_getElem (by rw [HTS.out]; exact hlt)]; rfl) (digit_none hdg)))
              have HDG := Lib.hid (l01Digit_any (s[i].toNat : Int) w)
              rw [hdg] at HDG
              clear hdg hm
              go_wp2_with fail
              refine HDG.out.mono ?_
              rintro e w1 ⟨rfl, rfl⟩
              go_wp2
              go_ret2
              exact ⟨by rw [HN.out]; rfl, (Below.refl _ _)⟩
            | true =>
              obtain ⟨g1, g2, g3⟩ := digit_val hdg
              have HS := Lib.hid (Lib.decFrom_take s.data.toList i 0 m s[i] _ HM.out (by rw [List.getElem?_eq_getElem (by rw [HTS.out]; exact hlt)]; rfl) g1)
              have HDG := Lib.hid (l01Digit_any (s[i].toNat : Int) w)
              rw [hdg] at HDG
              clear hdg g1
              have hz := hz1
              go_wp2_with fail
              refine HDG.out.mono ?_
              rintro e w1 ⟨rfl, rfl⟩
              go_wp2
              go_roundw
              case rel => exact ⟨i + 1, m * 10 + (s[i].toNat - 48), by omega, by go_num, by go_num, HS, trivial⟩
              case measure => simp [intOf]; omega
          · obtain rfl : i = s.size := by omega
            have hmm := HM.out
            rw [List.take_of_length_le (by rw [HTS.out]; exact Nat.le_refl _)] at hmm
            have hm := Lib.decFrom_lt18 hmm (by rw [HTS.out]; omega)
            have HSP := Lib.hid (spec_at (l := s.data.toList) (z := (m : Int)) HD.out (by rw [HTS.out]; omega) (by rw [HTS.out]; omega) hmm (by (first | rw [HTS.out, HSL.out] | rw [HTS.out]); (rw [if_neg (Nat.lt_irrefl _)])))
            have HDE := Lib.hid (l01Dec_any (m : Int) (by omega) (by omega) w)
            clear hmm
            by_cases hq : Lib.itoa (m : Int) = s.data.toList
            · have HN : Hid (specNum s.data.toList = some (m : Int)) := Lib.hid (by rw [HSP.out, if_pos hq])
              have hq1 : ((mkB (Lib.itoa (m : Int))).toList != s.toList) = false := by rw [mkB_list, ByteArray.toList_eq, hq]; simp
              have hq2 : ((mkB (Lib.itoa (m : Int))).toList == s.toList) = true := by rw [mkB_list, ByteArray.toList_eq, hq]; simp
              clear hq
              go_wp2_with fail
              refine HDE.out.mono ?_
              rintro e w1 ⟨rfl, hd⟩
              go_wp2
              go_ret2
              exact ⟨by rw [HN.out]; rfl, hd⟩
            · have HN : Hid (specNum s.data.toList = none) := Lib.hid (by rw [HSP.out, if_neg hq])
              have hq1 : ((mkB (Lib.itoa (m : Int))).toList != s.toList) = true := by rw [mkB_list, ByteArray.toList_eq]; simpa using hq
              have hq2 : ((mkB (Lib.itoa (m : Int))).toList == s.toList) = false := by rw [mkB_list, ByteArray.toList_eq]; simpa using hq
              clear hq
              go_wp2_with fail
              refine HDE.out.mono ?_
              rintro e w1 ⟨rfl, hd⟩
              go_wp2
              go_ret2
              exact ⟨by rw [HN.out]; rfl, hd⟩
end Go.Proofs.YtjdcdhhbgijaoaaGreatDoor
