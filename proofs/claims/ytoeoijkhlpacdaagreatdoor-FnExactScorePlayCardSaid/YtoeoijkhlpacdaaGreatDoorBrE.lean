/- Contracts: the reference's small letters and reversed strings. For strings of at most 2^20 bytes. -/
import Derived.Test.YtoeoijkhlpacdaaGreatDoorBrD
namespace Go.Proofs.YtoeoijkhlpacdaaGreatDoor
open Go.ChangeShapes Go.WideShapes Go.ChangeAt Go.RowKit Go.Sort

/-! ### Plain -/
def lowK (L : List UInt8) (k : Nat) : List UInt8 := (L.take k).map lowC ++ L.drop k
theorem lowK_zero (L : List UInt8) : lowK L 0 = L := by simp [lowK]
theorem lowK_end {L : List UInt8} {k : Nat} (h : L.length ≤ k) : lowK L k = lowL L := by
  unfold lowK lowL
  rw [List.take_of_length_le h, List.drop_eq_nil_of_le h, List.append_nil]
theorem lowK_len (L : List UInt8) (k : Nat) : (lowK L k).length = L.length := by
  unfold lowK
  rw [List.length_append, List.length_map, ← List.length_append, List.take_append_drop]
theorem lowK_get {L : List UInt8} {k : Nat} (h : k < L.length) (h2 : k < (lowK L k).length) : (lowK L k)[k] = L[k] := by
  have e : (lowK L k)[k]? = some L[k] := by
    unfold lowK
    rw [List.getElem?_append_right (by simp; omega), List.getElem?_drop]
    have : k + (k - (List.map lowC (List.take k L)).length) = k := by simp; omega
    rw [this, List.getElem?_eq_getElem h]
  rw [List.getElem?_eq_getElem h2] at e
  simpa using e
theorem lowK_succ {L : List UInt8} {k : Nat} (h : k < L.length) : lowK L (k + 1) = (lowK L k).set k (lowC L[k]) := by
  unfold lowK
  rw [List.take_succ_eq_append_getElem h, List.map_append, List.set_append_right _ _ (by simp; omega), List.length_map, List.length_take, Nat.min_eq_left (by omega), Nat.sub_self, List.drop_eq_getElem_cons h, List.set_cons_zero]
  simp
theorem lowK_same {L : List UInt8} {k : Nat} (h : k < L.length) (hc : lowC L[k] = L[k]) : lowK L (k + 1) = lowK L k := by
  rw [lowK_succ h, hc]
  have h2 : k < (lowK L k).length := by rw [lowK_len]; exact h
  rw [← lowK_get h h2, List.set_getElem_self]
theorem lowC_cap {c : UInt8} (h : capB (c.toNat : Int) = true) : ((lowC c).toNat : Int) = (c.toNat : Int) + 32 := by
  unfold lowC
  rw [if_pos h]
  unfold capB at h
  simp only [Bool.and_eq_true, decide_eq_true_eq] at h
  rw [UInt8.toNat_add]
  show (((c.toNat + 32) % 256 : Nat) : Int) = _
  omega
theorem lowC_not {c : UInt8} (h : capB (c.toNat : Int) = false) : lowC c = c := by
  unfold lowC
  rw [h]; rfl
theorem cap_range {c : Int} (h : capB c = true) : 65 ≤ c ∧ c ≤ 90 := by
  unfold capB at h
  simpa only [Bool.and_eq_true, decide_eq_true_eq] using h
theorem back_step {L : List UInt8} {k : Nat} (h : k < L.length) : (L.drop k).reverse = (L.drop (k + 1)).reverse ++ [L[k]] := by
  rw [List.drop_eq_getElem_cons h, List.reverse_cons]
theorem back_end {L : List UInt8} {k : Nat} (h : L.length ≤ k) : (L.drop k).reverse = [] := by
  rw [List.drop_eq_nil_of_le h]; rfl

set_option maxRecDepth 100000 in
set_option maxHeartbeats 4000000 in
theorem l03Small_any (s : ByteArray) (w : World) (hs : s.size ≤ 1048576) :
    Calls Tryz.prog 169 #[.string s] w fun e w' => e = .returned (.string (mkB (lowL s.data.toList))) ∧ Below w.heap.size w w' := by
  have hl : s.data.toList.length = s.size := by simp
  have HL := Lib.hid hl
  obtain ⟨cp, w1, hcp, hcv, hr, hb⟩ := bytes_of s w
  have HR : Hid (RowB w1 w.heap.size (lowK s.data.toList 0)) := Lib.hid (by rw [lowK_zero]; exact hr)
  have HLN := Lib.hid (lowK_len s.data.toList)
  have HE := Lib.hid (fun k h => lowK_end (L := s.data.toList) (k := k) h)
  have HSC := Lib.hid (fun k (h : k < s.size) => lowK_succ (L := s.data.toList) (k := k) (by simpa using h))
  have HSM := Lib.hid (fun k (h : k < s.size) => lowK_same (L := s.data.toList) (k := k) (by simpa using h))
  have HGT := Lib.hid (fun k (h : k < s.size) => lowK_get (L := s.data.toList) (k := k) (by simpa using h))
  clear hr hl
  generalize lowL s.data.toList = R at *
  go_enter Tryz.func169, Tryz.ntmps169
  go_wp2_with fail
  clear hcv
  go_loopw [4] (fun i wr => ∃ k : Nat, k ≤ s.size ∧ i = .int .i64 k ∧ Hid (RowB wr w.heap.size (lowK s.data.toList k)) ∧ Below w.heap.size w wr) (fun i _ => s.size - (intOf i).toNat)
  case atStart => exact ⟨0, Nat.zero_le _, rfl, HR, hb⟩
  case round =>
    clear HR hb
    obtain ⟨k, hk, rfl, HR, hb⟩ := hrel
    by_cases hlt : k < s.size
    · have hlk : k < (lowK s.data.toList k).length := by rw [HLN.out, HL.out]; exact hlt
      have c0 := HR.out.cell (i := k) hlk
      have f0 := HR.out.free (i := k) hlk
      rw [HGT.out k hlt hlk, bytes_get s k hlt] at c0
      cases hcap : capB (s[k].toNat : Int) with
      | true =>
        have hv := lowC_cap hcap
        obtain ⟨hr1, hr2⟩ := cap_range hcap
        obtain ⟨o0, k0⟩ := HR.out.set k (lowC s[k])
        have HR2 : Hid (RowB (wr.setCell ⟨w.heap.size, k, none⟩ (.int .u8 ((s[k].toNat : Int) + 32))) w.heap.size (lowK s.data.toList (k + 1))) := Lib.hid (by
          rw [HSC.out k hlt, bytes_get s k hlt, ← hv]; exact o0)
        have hb2 : Below w.heap.size w (wr.setCell ⟨w.heap.size, k, none⟩ (.int .u8 ((s[k].toNat : Int) + 32))) := by
          rw [← hv]
          exact hb.grown k0 hb.size (fun q h => by cases h; exact Nat.le_refl _)
        clear o0 k0 hv hlk
        go_wp2_with fail
        refine (l03Capital_any _ _).mono ?_
        rintro e w' ⟨rfl, rfl⟩
        rw [hcap]
        clear hcap HR hb
        go_wp2
        go_roundw
        case rel => exact ⟨k + 1, by omega, by go_num, HR2, hb2⟩
        case measure => simp [intOf]; omega
      | false =>
        have HR2 : Hid (RowB wr w.heap.size (lowK s.data.toList (k + 1))) := Lib.hid (by rw [HSM.out k hlt (by rw [bytes_get s k hlt]; exact lowC_not hcap)]; exact HR.out)
        clear hlk
        go_wp2_with fail
        refine (l03Capital_any _ _).mono ?_
        rintro e w' ⟨rfl, rfl⟩
        rw [hcap]
        clear hcap HR
        go_wp2
        go_roundw
        case rel => exact ⟨k + 1, by omega, by go_num, HR2, hb⟩
        case measure => simp [intOf]; omega
    · obtain rfl : k = s.size := by omega
      have hcv := HR.out.str (n := s.size) (cap := cp) (by rw [HLN.out, HL.out])
      rw [HE.out _ (by rw [HL.out]; exact Nat.le_refl _)] at hcv
      go_wp2
      go_ret
      exact ⟨rfl, hb⟩
set_option maxRecDepth 100000 in
set_option maxHeartbeats 4000000 in
theorem l08Back_any (s : ByteArray) (w : World) (hs : s.size ≤ 1048576) :
    Calls Tryz.prog 170 #[.string s] w fun e w' => e = .returned (.string (mkB s.data.toList.reverse)) ∧ Below w.heap.size w w' := by
  obtain ⟨i0, hi0, hi1, hi2, hi3⟩ := info_parts infoByte
  have hl : s.data.toList.length = s.size := by simp
  have HL := Lib.hid hl
  obtain ⟨w3, hw3⟩ : ∃ w3, w3 = w.alloc (.cells #[] 5) := ⟨_, rfl⟩
  have hb : Below w.heap.size w w3 := by rw [hw3]; exact (Below.refl _ _).alloc (Nat.le_refl _) _
  have HO : Hid (w3.ownsRow w.heap.size 5 1 (.slice (some ⟨w.heap.size, 0, none⟩) 0 0) 0 (((s.data.toList.drop s.size).reverse).flatMap U8.enc)) := by
    rw [hw3, back_end (by omega)]
    exact Lib.hid (World.ownsRow_made (base := w.heap.size) (e := 5) (size := 1) w #[] 0 (by simp) (by unfold maxLen; omega) rfl)
  have HST := Lib.hid (fun k (h : k < s.size) => back_step (L := s.data.toList) (k := k) (by simpa using h))
  have HW3 := Lib.hid hw3
  clear hw3 hl
  go_enter Tryz.func170, Tryz.ntmps170
  go_wp2_with fail
  rw [← HW3.out]
  clear HW3
  go_loopw [3, 4] (fun ov iv wr => ∃ (m g cap : Nat), m ≤ s.size ∧ iv = .int .i64 ((s.size : Int) - m - 1) ∧ ov = .slice (some ⟨g, 0, none⟩) m cap ∧ Hid (wr.ownsRow w.heap.size 5 1 (.slice (some ⟨g, 0, none⟩) m cap) m (((s.data.toList.drop (s.size - m)).reverse).flatMap U8.enc)) ∧ Below w.heap.size w wr) (fun _ iv _ => (intOf iv + 1).toNat)
  case atStart => exact ⟨0, _, 0, Nat.zero_le _, by go_num, rfl, HO, hb⟩
  case round =>
    clear HO hb
    obtain ⟨m, g, cap, hm, rfl, rfl, HO, hb⟩ := hrel
    by_cases hlt : m < s.size
    · obtain ⟨k, hk⟩ : ∃ k, k + m + 1 = s.size := ⟨s.size - m - 1, by omega⟩
      have hki : (s.size : Int) - m - 1 = (k : Int) := by omega
      rw [hki]
      have hks : k < s.size := by omega
      have HT := Lib.hid (HST.out k hks)
      have HM : Hid (s.size - m = k + 1 ∧ s.size - (m + 1) = k) := Lib.hid (by omega)
      rw [bytes_get s k hks] at HT
      have hx : Below wr.heap.size wr (wr.alloc (.cells #[.int .u8 (s[k].toNat : Int)] 5)) := (Below.refl _ _).alloc (Nat.le_refl _) _
      have KN := Lib.hid (new_byte wr s[k] 5)
      replace HO := Lib.hid (own_below HO.out hx)
      have hz2 := hb.size
      replace hb := hb.trans (hx.mono hb.size)
      clear hx hki
      go_wp2_with (at_builtin; go_must (refine wpList_append_own _ rfl (.tmp 13) (.tmp 17) 152 rfl w.heap.size 5 i0 _ 1 1 Tryz.underlying152 hi0 hi1 hi2 hi3 rfl (by decide) _ m (((s.data.toList.drop (s.size - m)).reverse).flatMap U8.enc) (by rfl) HO.out ⟨wr.heap.size, 0, none⟩ 1 1 (U8.enc s[k]) (by rfl) rfl KN.out (u8_one1 s[k]) ?c1 ?c2 ?c3 ?_))
      case c1 => unfold maxLen; omega
      case c2 => omega
      case c3 => (first | omega | (simp only [World.size_alloc]; omega))
      intro v' w7 hown hgr hnil
      obtain ⟨g7, cap7, rfl, _⟩ := own_some hown (fun e => by have h := hnil; rw [e] at h; simp at h)
      have hb7 := hb.grown hgr hb.size (fun q e => by have := (HO.out.lt q e).1; omega)
      have HO7 : Hid (w7.ownsRow w.heap.size 5 1 (.slice (some ⟨g7, 0, none⟩) (m + 1) cap7) (m + 1) (((s.data.toList.drop (s.size - (m + 1))).reverse).flatMap U8.enc)) := Lib.hid (by
        rw [HM.out.2, HT.out, snoc_flat U8.enc, ← HM.out.1]; exact hown)
      clear hown hgr hnil KN HO hb HT
      go_wp2
      go_roundw
      case rel => exact ⟨m + 1, g7, cap7, by omega, by go_num, by go_num, HO7, hb7⟩
      case measure => (first | (simp [intOf]; done) | (simp [intOf]; omega))
    · obtain rfl : m = s.size := by omega
      have hO := HO.out
      rw [Nat.sub_self, List.drop_zero] at hO
      have hcv := own_bytes hO (by rw [List.length_reverse]; exact HL.out.symm)
      clear hO HO
      have hneg : (s.size : Int) - s.size - 1 = -1 := by omega
      rw [hneg]
      go_wp2
      go_ret
      exact ⟨rfl, hb⟩
end Go.Proofs.YtoeoijkhlpacdaaGreatDoor
