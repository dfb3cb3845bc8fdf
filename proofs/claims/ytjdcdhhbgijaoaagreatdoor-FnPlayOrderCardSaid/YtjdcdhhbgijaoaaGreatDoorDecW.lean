/- Contract: the reference's decimal form of a number. No condition but that the number is an int64. -/
import Derived.Test.YtjdcdhhbgijaoaaGreatDoorVar
import Derived.Test.YtjdcdhhbgijaoaaGreatDoorSplP
import Derived.Lib.ItoaLen
import Derived.Handy
import Derived.OwnWalk
import Derived.Deep.DeepMust
import Derived.Laws.AppendOwn
namespace Go.Proofs.YtjdcdhhbgijaoaaGreatDoor
open Go.ChangeShapes Go.WideShapes Go.ChangeAt Go.RowKit Go.Sort

/-- the digits that are still to come, and those that are there -/
def tailOf (u : Nat) (ds : List UInt8) : List UInt8 := if u = 0 then ds else Lib.decDigits u ++ ds
theorem tail_step {u : Nat} (h : 0 < u) (ds : List UInt8) : tailOf (u / 10) (UInt8.ofNat (48 + u % 10) :: ds) = tailOf u ds := by
  unfold tailOf
  rw [if_neg (show ¬ u = 0 by omega)]
  by_cases h10 : u < 10
  · rw [if_pos (by omega), Lib.decDigits, dif_pos h10, Nat.mod_eq_of_lt h10]
    rfl
  · rw [if_neg (by omega)]
    conv => rhs; rw [Lib.decDigits, dif_neg h10]
    rw [List.append_assoc]
    rfl
theorem byte_digit {d : Nat} (h : d < 10) : ((UInt8.ofNat (48 + d)).toNat : Int) = 48 + d := by
  rw [UInt8.toNat_ofNat']; omega
theorem tdiv_neg (u : Nat) : (-(u : Int)).tdiv 10 = -((u / 10 : Nat) : Int) := by
  rw [Int.neg_tdiv]; rfl
theorem tmod_neg (u : Nat) : (-(u : Int)).tmod 10 = -((u % 10 : Nat) : Int) := by
  rw [Int.neg_tmod]; rfl
theorem tail_len {u : Nat} {ds l : List UInt8} (h : tailOf u ds = l) : ds.length ≤ l.length := by
  subst h
  unfold tailOf
  split
  · exact Nat.le_refl _
  · rw [List.length_append]; omega
theorem itoa_pos {u : Nat} (h : 0 < u) : tailOf u [] = Lib.itoa (u : Int) := by
  unfold tailOf
  rw [if_neg (by omega), Lib.itoa_nonneg, List.append_nil]
theorem itoa_neg' {u : Nat} (h : 0 < u) : 45 :: tailOf u [] = Lib.itoa (-(u : Int)) := by
  unfold tailOf
  rw [if_neg (by omega), Lib.itoa_neg u h, List.append_nil]
theorem itoa_len_pos (n : Int) : 0 < (Lib.itoa n).length := by
  unfold Lib.itoa
  split
  · simp
  · rw [Lib.decDigits_length]; have := Lib.nDigits_pos n.toNat; omega
theorem row_cons {w : World} {base : Nat} {v : Value} {ds : List UInt8} {z : Int} {c : UInt8} (hz : (c.toNat : Int) = z) (h : w.ownsRow base 5 1 v (1 + ds.length) ([.int .u8 z] ++ ds.flatMap U8.enc)) :
    w.ownsRow base 5 1 v (c :: ds).length ((c :: ds).flatMap U8.enc) := by
  subst hz
  rw [List.length_cons, Nat.add_comm]
  exact h
set_option maxRecDepth 100000 in
set_option maxHeartbeats 2000000 in
theorem l01Dec_pos (U : Nat) (h0 : 0 < U) (h1 : U ≤ 9223372036854775807) (w : World) : Calls Tryz.prog 221 #[.int .i64 (U : Int)] w (StrPost w (Lib.itoa (U : Int))) := by
  obtain ⟨i0, hi0, hi1, hi2, hi3⟩ := info_parts infoByte
  have HLEN : Hid ((tailOf U []).length ≤ 21) := Lib.hid (by rw [itoa_pos h0]; exact Lib.itoa_length_le _ (by omega) (by omega))
  have hb0 : Below w.heap.size w (w.alloc (.cells #[] 5)) := (Below.refl _ _).alloc (Nat.le_refl _) _
  have HR := Lib.hid (World.ownsRow_made (base := w.heap.size) (e := 5) (size := 1) w #[] 0 (by simp) (by unfold maxLen; omega) rfl)
  go_enter Tryz.func221, Tryz.ntmps221
  go_wp2_with fail
  go_loopw [3, 4] (fun ov kv wr => ∃ (u : Nat) (ds : List UInt8) (g cap : Nat), kv = .int .i64 (u : Int) ∧ u ≤ 9223372036854775807 ∧ ov = .slice (some ⟨g, 0, none⟩) ds.length cap ∧ Hid (tailOf u ds = tailOf U []) ∧ Hid (wr.ownsRow w.heap.size 5 1 (.slice (some ⟨g, 0, none⟩) ds.length cap) ds.length (ds.flatMap U8.enc)) ∧ Below w.heap.size w wr) (fun _ kv _ => (intOf kv).toNat)
  case atStart => exact ⟨U, [], _, _, rfl, h1, rfl, Lib.hid rfl, HR, hb0⟩
  case round =>
    clear HR hb0
    obtain ⟨u, ds, g, cap, rfl, hu, rfl, HT, HR, hb⟩ := hrel
    have hl : ds.length ≤ 21 := Nat.le_trans (tail_len HT.out) HLEN.out
    by_cases hlt : 0 < u
    · have e1 : ((u : Int) != 0) = true := by simp; omega
      have e2 : 0 ≤ (u : Int) % 10 := by omega
      have e3 : (u : Int) % 10 ≤ 9 := by omega
      have hx : Below wr.heap.size wr (wr.alloc (.cells #[.int .u8 (48 + (u : Int) % 10)] 5)) := (Below.refl _ _).alloc (Nat.le_refl _) _
      have HV := Lib.hid (own_new_byte wr (48 + (u : Int) % 10) 5 w.heap.size hb.size)
      have HS := Lib.hid (own_news0 (own_below HR.out hx))
      have hz := hb.size
      replace hb := hb.trans (hx.mono hb.size)
      have HNX := Lib.hid (tail_step hlt ds)
      have HBD := Lib.hid (byte_digit (show u % 10 < 10 by omega))
      clear hx
      go_wp2_with (at_builtin; go_must (refine wpList_append_own _ rfl (.tmp 21) (.tmp 22) 22 rfl w.heap.size 5 i0 _ 1 1 Tryz.underlying22 hi0 hi1 hi2 hi3 rfl (by decide) _ 1 [.int .u8 (48 + (u : Int) % 10)] (by rfl) HV.out ⟨g, 0, none⟩ ds.length cap (ds.flatMap U8.enc) (by rfl) (by rw [u8_flat]; simp) HS.out (u8_one ds) ?c1 ?c2 ?c3 ?_))
      case c1 => unfold maxLen; omega
      case c2 => omega
      case c3 => simp; omega
      intro v' w6 hown6 hgr6 hnil
      obtain ⟨g6, cap6, rfl, _⟩ := own_some hown6 hnil
      replace hb := hb.grown hgr6 (by simp; omega) (fun q e => by simp [Value.ownBlock] at e; omega)
      have HR6 := Lib.hid (row_cons HBD.out hown6)
      have HL6 : Hid ((UInt8.ofNat (48 + u % 10) :: ds).length = 1 + ds.length) := Lib.hid (by simp; omega)
      clear hown6 hgr6 hnil HV HS HR e1 e2 e3
      go_wp2
      go_roundw
      case rel => exact ⟨u / 10, UInt8.ofNat (48 + u % 10) :: ds, g6, cap6, by go_num, by omega, by rw [HL6.out], Lib.hid (HNX.out.trans HT.out), by have h7 := HR6.out; rw [HL6.out] at h7 ⊢; exact Lib.hid h7, hb⟩
      case measure => simp [intOf]; omega
    · obtain rfl : u = 0 := by omega
      have hds : ds = tailOf U [] := HT.out
      have hd0 : 0 < ds.length := by rw [hds, itoa_pos h0]; exact itoa_len_pos _
      have e1 : ((ds.length : Int) == 0) = false := beq_eq_false_iff_ne.2 (by omega)
      have hcv := own_bytes HR.out rfl
      have HI := Lib.hid (hds.trans (itoa_pos h0))
      clear hds HT HR
      go_wp2
      go_ret
      exact ⟨by rw [HI.out]; rfl, hb⟩
set_option maxRecDepth 100000 in
set_option maxHeartbeats 2000000 in
theorem l01Dec_neg (U : Nat) (h0 : 0 < U) (h1 : U ≤ 9223372036854775808) (w : World) : Calls Tryz.prog 221 #[.int .i64 (-(U : Int))] w (StrPost w (Lib.itoa (-(U : Int)))) := by
  obtain ⟨i0, hi0, hi1, hi2, hi3⟩ := info_parts infoByte
  have HLEN : Hid ((tailOf U []).length ≤ 21) := Lib.hid (by have := Lib.itoa_length_le (-(U : Int)) (by omega) (by omega); rw [← itoa_neg' h0] at this; simp at this; omega)
  have hb0 : Below w.heap.size w (w.alloc (.cells #[] 5)) := (Below.refl _ _).alloc (Nat.le_refl _) _
  have HR := Lib.hid (World.ownsRow_made (base := w.heap.size) (e := 5) (size := 1) w #[] 0 (by simp) (by unfold maxLen; omega) rfl)
  go_enter Tryz.func221, Tryz.ntmps221
  go_wp2_with fail
  go_loopw [3, 4] (fun ov kv wr => ∃ (u : Nat) (ds : List UInt8) (g cap : Nat), kv = .int .i64 (-(u : Int)) ∧ u ≤ 9223372036854775808 ∧ ov = .slice (some ⟨g, 0, none⟩) ds.length cap ∧ Hid (tailOf u ds = tailOf U []) ∧ Hid (wr.ownsRow w.heap.size 5 1 (.slice (some ⟨g, 0, none⟩) ds.length cap) ds.length (ds.flatMap U8.enc)) ∧ Below w.heap.size w wr) (fun _ kv _ => (intOf kv).natAbs)
  case atStart => exact ⟨U, [], _, _, rfl, h1, rfl, Lib.hid rfl, HR, hb0⟩
  case round =>
    clear HR hb0
    obtain ⟨u, ds, g, cap, rfl, hu, rfl, HT, HR, hb⟩ := hrel
    have hl : ds.length ≤ 21 := Nat.le_trans (tail_len HT.out) HLEN.out
    by_cases hlt : 0 < u
    · have e1 : (-(u : Int) != 0) = true := by simp; omega
      have t1 := tdiv_neg u
      have t2 := tmod_neg u
      have HBD0 := byte_digit (show u % 10 < 10 by omega)
      rcases Nat.eq_zero_or_pos (u % 10) with hm | hm
      · have HBD : Hid (((UInt8.ofNat (48 + u % 10)).toNat : Int) = 48) := Lib.hid (by rw [HBD0, hm]; rfl)
        have t3 : (-(u : Int)).tmod 10 = 0 := by rw [t2, hm]; rfl
        clear t2 hm HBD0
        have hx : Below wr.heap.size wr (wr.alloc (.cells #[.int .u8 (48)] 5)) := (Below.refl _ _).alloc (Nat.le_refl _) _
        have HV := Lib.hid (own_new_byte wr (48) 5 w.heap.size hb.size)
        have HS := Lib.hid (own_news0 (own_below HR.out hx))
        have hz := hb.size
        replace hb := hb.trans (hx.mono hb.size)
        have HNX := Lib.hid (tail_step hlt ds)
        clear hx
        go_wp2_with (at_builtin; go_must (refine wpList_append_own _ rfl (.tmp 21) (.tmp 22) 22 rfl w.heap.size 5 i0 _ 1 1 Tryz.underlying22 hi0 hi1 hi2 hi3 rfl (by decide) _ 1 [.int .u8 (48)] (by rfl) HV.out ⟨g, 0, none⟩ ds.length cap (ds.flatMap U8.enc) (by rfl) (by rw [u8_flat]; simp) HS.out (u8_one ds) ?c1 ?c2 ?c3 ?_))
        case c1 => unfold maxLen; omega
        case c2 => omega
        case c3 => simp; omega
        intro v' w6 hown6 hgr6 hnil
        obtain ⟨g6, cap6, rfl, _⟩ := own_some hown6 hnil
        replace hb := hb.grown hgr6 (by simp; omega) (fun q e => by simp [Value.ownBlock] at e; omega)
        have HR6 := Lib.hid (row_cons HBD.out hown6)
        have HL6 : Hid ((UInt8.ofNat (48 + u % 10) :: ds).length = 1 + ds.length) := Lib.hid (by simp; omega)
        clear hown6 hgr6 hnil HV HS HR e1
        go_wp2
        go_roundw
        case rel => exact ⟨u / 10, UInt8.ofNat (48 + u % 10) :: ds, g6, cap6, by go_num, by omega, by rw [HL6.out], Lib.hid (HNX.out.trans HT.out), by have h7 := HR6.out; rw [HL6.out] at h7 ⊢; exact Lib.hid h7, hb⟩
        case measure => simp [intOf]; omega
      · have HBD : Hid (((UInt8.ofNat (48 + u % 10)).toNat : Int) = 48 + (u : Int) % 10) := Lib.hid (by rw [HBD0]; omega)
        have e2 : 0 < (u : Int) % 10 := by omega
        have e3 : (u : Int) % 10 ≤ 9 := by omega
        clear hm HBD0
        have hx : Below wr.heap.size wr (wr.alloc (.cells #[.int .u8 ((48 + (u : Int) % 10))] 5)) := (Below.refl _ _).alloc (Nat.le_refl _) _
        have HV := Lib.hid (own_new_byte wr ((48 + (u : Int) % 10)) 5 w.heap.size hb.size)
        have HS := Lib.hid (own_news0 (own_below HR.out hx))
        have hz := hb.size
        replace hb := hb.trans (hx.mono hb.size)
        have HNX := Lib.hid (tail_step hlt ds)
        clear hx
        go_wp2_with (at_builtin; go_must (refine wpList_append_own _ rfl (.tmp 21) (.tmp 22) 22 rfl w.heap.size 5 i0 _ 1 1 Tryz.underlying22 hi0 hi1 hi2 hi3 rfl (by decide) _ 1 [.int .u8 ((48 + (u : Int) % 10))] (by rfl) HV.out ⟨g, 0, none⟩ ds.length cap (ds.flatMap U8.enc) (by rfl) (by rw [u8_flat]; simp) HS.out (u8_one ds) ?c1 ?c2 ?c3 ?_))
        case c1 => unfold maxLen; omega
        case c2 => omega
        case c3 => simp; omega
        intro v' w6 hown6 hgr6 hnil
        obtain ⟨g6, cap6, rfl, _⟩ := own_some hown6 hnil
        replace hb := hb.grown hgr6 (by simp; omega) (fun q e => by simp [Value.ownBlock] at e; omega)
        have HR6 := Lib.hid (row_cons HBD.out hown6)
        have HL6 : Hid ((UInt8.ofNat (48 + u % 10) :: ds).length = 1 + ds.length) := Lib.hid (by simp; omega)
        clear hown6 hgr6 hnil HV HS HR e1
        go_wp2
        go_roundw
        case rel => exact ⟨u / 10, UInt8.ofNat (48 + u % 10) :: ds, g6, cap6, by go_num, by omega, by rw [HL6.out], Lib.hid (HNX.out.trans HT.out), by have h7 := HR6.out; rw [HL6.out] at h7 ⊢; exact Lib.hid h7, hb⟩
        case measure => simp [intOf]; omega
    · obtain rfl : u = 0 := by omega
      have hds : ds = tailOf U [] := HT.out
      have hd0 : 0 < ds.length := by rw [hds, itoa_pos h0]; exact itoa_len_pos _
      have e2 : -(U : Int) < 0 := by omega
      have hsz : 1 + (mkB ds).size ≤ 9223372036854775807 := by rw [mkB_size]; omega
      have e1 : ((ds.length : Int) == 0) = false := beq_eq_false_iff_ne.2 (by omega)
      have hcv := own_bytes HR.out rfl
      have HI : Hid (45 :: ds = Lib.itoa (-(U : Int))) := Lib.hid (by rw [hds]; exact itoa_neg' h0)
      clear hds HT HR
      go_wp2
      go_ret
      refine ⟨?_, hb⟩
      rw [← HI.out]
      exact congrArg (fun b => Ending.returned (.string b)) ((cat_mk ⟨#[45]⟩ (mkB ds)).trans (by rw [mkB_data]; rfl))
theorem l01Dec_zero (w : World) : Calls Tryz.prog 221 #[.int .i64 0] w (StrPost w (Lib.itoa 0)) := by
  have hb0 : Below w.heap.size w (w.alloc (.cells #[] 5)) := (Below.refl _ _).alloc (Nat.le_refl _) _
  go_enter Tryz.func221, Tryz.ntmps221
  go_wp2_with fail
  refine wp_loop_rounds 1 ?_
  rw [rounds_succ]
  have e0 : Lib.itoa 0 = [48] := by unfold Lib.itoa; rw [if_neg (by omega)]; exact Lib.decDigits_one (by decide)
  go_wp2
  go_ret
  exact ⟨by rw [e0]; rfl, hb0⟩
theorem l01Dec_any (n : Int) (h0 : -9223372036854775808 ≤ n) (h1 : n ≤ 9223372036854775807) (w : World) : Calls Tryz.prog 221 #[.int .i64 n] w (StrPost w (Lib.itoa n)) := by
  rcases Int.lt_trichotomy n 0 with h | h | h
  · obtain ⟨u, rfl⟩ : ∃ u : Nat, n = -(u : Int) := ⟨n.natAbs, by omega⟩
    exact l01Dec_neg u (by omega) (by omega) w
  · subst h
    exact l01Dec_zero w
  · obtain ⟨u, rfl⟩ : ∃ u : Nat, n = (u : Int) := ⟨n.natAbs, by omega⟩
    exact l01Dec_pos u (by omega) (by omega) w
end Go.Proofs.YtjdcdhhbgijaoaaGreatDoor
