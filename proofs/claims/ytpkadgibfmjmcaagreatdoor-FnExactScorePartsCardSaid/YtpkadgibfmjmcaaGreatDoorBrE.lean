/- Contracts: the reference's small letters and reversed strings. For strings of at most 2^20 bytes. -/
import Derived.Test.YtpkadgibfmjmcaaGreatDoorBrD
namespace Go.Proofs.YtpkadgibfmjmcaaGreatDoor
open Go.ChangeShapes Go.WideShapes Go.ChangeAt Go.RowKit Go.Sort

/-! ### Plain -/
def lowK (L : List UInt8) (k : Nat) : List UInt8 := (L.take k).map lowC ++ L.drop k
theorem lowK_zero (L : List UInt8) : lowK L 0 = L := by simp [lowK]
theorem lowK_end {L : List UInt8} {k : Nat} (h : L.length ≤ k) : lowK L k = lowL L := by
  unfold lowK lowL
  rw [List.take_of_length_le h, List.drop_eq_nil_of_le h, List.append_nil]
theorem lowK_len (L : List UInt8) (k : Nat) : (lowK L k).length = L.length := by
  unfold lowK
  rw [List.length_append, List.length_map, ← List.length_append, List.take_append_drop]
theorem lowK_get {L : List UInt8} {k : Nat} (h : k < L.length) (h2 : k < (lowK L k).length) : (lowK L k)[k] = L[k] := by
  have e : (lowK L k)[k]? = some L[k] := by
    unfold lowK
    rw [List.getElem?_append_right (by simp; omega), List.getElem?_drop]
    have : k + (k - (List.map lowC (List.take k L)).length) = k := by simp; omega
    rw [this, List.getElem?_eq_getElem h]
  rw [List.getElem?_eq_getElem h2] at e
  simpa using e
theorem lowK_succ {L : List UInt8} {k : Nat} (h : k < L.length) : lowK L (k + 1) = (lowK L k).set k (lowC L[k]) := by
  unfold lowK
  rw [List.take_succ_eq_append_getElem h, List.map_append, List.set_append_right _ _ (by simp; omega), List.length_map, List.length_take, Nat.min_eq_left (by omega), Nat.sub_self, List.drop_eq_getElem_cons h, List.set_cons_zero]
  simp
theorem lowK_same {L : List UInt8} {k : Nat} (h : k < L.length) (hc : lowC L[k] = L[k]) : lowK L (k + 1) = lowK L k := by
  rw [lowK_succ h, hc]
  have h2 : k < (lowK L k).length := by rw [lowK_len]; exact h
  rw [← lowK_get h h2, List.set_getElem_self]
theorem lowC_cap {c : UInt8} (h : capB (c.toNat : Int) = true) : ((lowC c).toNat : Int) = (c.toNat : Int) + 32 := by
  unfold lowC
  rw [if_pos h]
  unfold capB at h
  simp only [Bool.and_eq_true, decide_eq_true_eq] at h
  rw [UInt8.toNat_add]
  show (((c.toNat + 32) % 256 : Nat) : Int) = _
  omega
theorem lowC_not {c : UInt8} (h : capB (c.toNat : Int) = false) : lowC c = c := by
  unfold lowC
  rw [h]; rfl
theorem cap_range {c : Int} (h : capB c = true) : 65 ≤ c ∧ c ≤ 90 := by
  unfold capB at h
  simpa only [Bool.and_eq_true, decide_eq_true_eq] using h
theorem back_step {L : List UInt8} {k : Nat} (h : k < L.length) : (L.drop k).reverse = (L.drop (k + 1)).reverse ++ [L[k]] := by
  rw [List.drop_eq_getElem_cons h, List.reverse_cons]
theorem back_end {L : List UInt8} {k : Nat} (h : L.length ≤ k) : (L.drop k).reverse = [] := by
  rw [List.drop_eq_nil_of_le h]; rfl

set_option maxRecDepth 100000 in
set_option maxHeartbeats 4000000 in
theorem l03Small_any (s : ByteArray) (w : World) (hs : s.size ≤ 1048576) :
    Calls Tryz.prog 203 #[.string s] w fun e w' => e = .returned (.string (mkB (lowL s.data.toList))) ∧ Below w.heap.size w w' := by
  have hl : s.data.toList.length = s.size := by simp
  have HL := Lib.hid hl
  obtain ⟨cp, w1, hcp, hcv, hr, hb⟩ := bytes_of s w
  have HR : Hid (RowB w1 w.heap.size (lowK s.data.toList 0)) := Lib.hid (by rw [lowK_zero]; exact hr)
  have HLN := Lib.hid (lowK_len s.data.toList)
  have HE := Lib.hid (fun k h => lowK_end (L := s.data.toList) (k := k) h)
  have HSC := Lib.hid (fun k (h : k < s.size) => lowK_succ (L := s.data.toList) (k := k) (by simpa using h))
  have HSM := Lib.hid (fun k (h : k < s.size) => lowK_same (L := s.data.toList) (k := k) (by simpa using h))
  have HGT := Lib.hid (fun k (h : k < s.size) => lowK_get (L := s.data.toList) (k := k) (by simpa using h))
  clear hr hl
  generalize lowL s.data.toList = R at *
  go_enter Tryz.func203, Tryz.ntmps203
  go_wp2_with fail
  clear hcv
  go_loopw [4] (fun i wr => ∃ k : Nat, k ≤ s.size ∧ i = .int .i64 k ∧ Hid (RowB wr w.heap.size (lowK s.data.toList k)) ∧ Below w.heap.size w wr) (fun i _ => s.size - (intOf i).toNat)
  case atStart => exact ⟨0, Nat.zero_le _, rfl, HR, hb⟩
  case round =>
    clear HR hb
    obtain ⟨k, hk, rfl, HR, hb⟩ := hrel
    by_cases hlt : k < s.size
    · have hlk : k < (lowK s.data.toList k).length := by rw [HLN.out, HL.out]; exact hlt
      have c0 := HR.out.cell (i := k) hlk
      have f0 := HR.out.free (i := k) hlk
      rw [HGT.out k hlt hlk, bytes_get s k hlt] at c0
      cases hcap : capB (s[k].toNat : Int) with
      | true =>
        have hv := lowC_cap hcap
        obtain ⟨hr1, hr2⟩ := cap_range hcap
        obtain ⟨o0, k0⟩ := HR.out.set k (lowC s[k])
        have HR2 : Hid (RowB (wr.setCell ⟨w.heap.size, k, none⟩ (.int .u8 ((s[k].toNat : Int) + 32))) w.heap.size (lowK s.data.toList (k + 1))) := Lib.hid (by
          rw [HSC.out k hlt, bytes_get s k hlt, ← hv]; exact o0)
        have hb2 : Below w.heap.size w (wr.setCell ⟨w.heap.size, k, none⟩ (.int .u8 ((s[k].toNat : Int) + 32))) := by
          rw [← hv]
          exact hb.grown k0 hb.size (fun q h => by cases h; exact Nat.le_refl _)
        clear o0 k0 hv hlk
        go_wp2_with fail
        refine (l03Capital_any _ _).mono ?_
        rintro e w' ⟨rfl, rfl⟩
        rw [hcap]
        clear hcap HR hb
        go_wp2
        go_roundw
        case rel => exact ⟨k + 1, by omega, by go_num, HR2, hb2⟩
        case measure => simp [intOf]; omega
      | false =>
        have HR2 : Hid (RowB wr w.heap.size (lowK s.data.toList (k + 1))) := Lib.hid (by rw [HSM.out k hlt (by rw [bytes_get s k hlt]; exact lowC_not hcap)]; exact HR.out)
        clear hlk
        go_wp2_with fail
        refine (l03Capital_any _ _).mono ?_
        rintro e w' ⟨rfl, rfl⟩
        rw [hcap]
        clear hcap HR
        go_wp2
        go_roundw
        case rel => exact ⟨k + 1, by omega, by go_num, HR2, hb⟩
        case measure => simp [intOf]; omega
    · obtain rfl : k = s.size := by omega
      have hcv := HR.out.str (n := s.size) (cap := cp) (by rw [HLN.out, HL.out])
      rw [HE.out _ (by rw [HL.out]; exact Nat.le_refl _)] at hcv
      go_wp2
      go_ret
      exact ⟨rfl, hb⟩
end Go.Proofs.YtpkadgibfmjmcaaGreatDoor
