/- Contracts: the program's reversed strings and small letters of ASCII strings. For strings of at most 2^20 bytes. -/
import Derived.Test.YtoeoijkhlpacdaaGreatDoorBrE
import Derived.Test.YtoeoijkhlpacdaaGreatDoorShq
namespace Go.Proofs.YtoeoijkhlpacdaaGreatDoor
open Go.ChangeShapes Go.WideShapes Go.ChangeAt Go.RowKit Go.Sort

/-! ### Plain -/
/-- the first k and the last k bytes have changed their places -/
def revK (L : List UInt8) (k : Nat) : List UInt8 := (List.range L.length).map fun i => if i < k ∨ L.length - k ≤ i then L.getD (L.length - 1 - i) 0 else L.getD i 0
theorem revK_len (L : List UInt8) (k : Nat) : (revK L k).length = L.length := by simp [revK]
theorem revK_get {L : List UInt8} {k i : Nat} (_h : i < L.length) (h2 : i < (revK L k).length) : (revK L k)[i] = if i < k ∨ L.length - k ≤ i then L.getD (L.length - 1 - i) 0 else L.getD i 0 := by
  simp [revK]
theorem revK_zero (L : List UInt8) : revK L 0 = L := by
  apply List.ext_getElem
  · simp [revK]
  · intro i h1 h2
    rw [revK_get h2 h1, if_neg (by omega), List.getD_eq_getElem?_getD, List.getElem?_eq_getElem h2]
    rfl
theorem revK_end {L : List UInt8} {k : Nat} (h : L.length ≤ 2 * k + 1) : revK L k = L.reverse := by
  apply List.ext_getElem
  · simp [revK]
  · intro i h1 h2
    have h3 : i < L.length := by simpa using h2
    rw [revK_get h3 h1, List.getElem_reverse]
    split
    · rw [List.getD_eq_getElem?_getD, List.getElem?_eq_getElem (by omega)]
      rfl
    · have e : i = L.length - 1 - i := by omega
      rw [List.getD_eq_getElem?_getD, List.getElem?_eq_getElem h3]
      simp only [Option.getD_some]
      congr 1
theorem revK_lo {L : List UInt8} {k : Nat} (h : 2 * k + 1 < L.length) (h2 : k < (revK L k).length) : (revK L k)[k] = L.getD k 0 := by
  rw [revK_get (by omega) h2, if_neg (by omega)]
theorem revK_hi {L : List UInt8} {k : Nat} (h : 2 * k + 1 < L.length) (h2 : L.length - 1 - k < (revK L k).length) : (revK L k)[L.length - 1 - k] = L.getD (L.length - 1 - k) 0 := by
  rw [revK_get (by omega) h2, if_neg (by omega)]
theorem revK_succ {L : List UInt8} {k : Nat} (h : 2 * k + 1 < L.length) : revK L (k + 1) = ((revK L k).set k (L.getD (L.length - 1 - k) 0)).set (L.length - 1 - k) (L.getD k 0) := by
  apply List.ext_getElem
  · simp [revK]
  · intro i h1 h2
    have h3 : i < L.length := by simpa [revK] using h1
    rw [revK_get h3 h1, List.getElem_set, List.getElem_set]
    by_cases e1 : L.length - 1 - k = i
    · rw [if_pos e1, if_pos (by omega)]
      congr 1
      omega
    · rw [if_neg e1]
      by_cases e2 : k = i
      · subst e2
        rw [if_pos (by omega), if_pos rfl]
      · rw [if_neg e2, revK_get h3 (by rw [revK_len]; exact h3)]
        by_cases c : i < k ∨ L.length - k ≤ i
        · rw [if_pos c, if_pos (by omega)]
        · rw [if_neg c, if_neg (by omega)]
theorem getD_u8 {L : List UInt8} {k : Nat} (h : k < L.length) : L.getD k 0 = L[k] := by
  rw [List.getD_eq_getElem?_getD, List.getElem?_eq_getElem h]; rfl
theorem low_eq (c : UInt8) : Lib.lowerB c = lowC c := by
  unfold Lib.lowerB lowC
  have e : Lib.isUpperB c = capB (c.toNat : Int) := by
    unfold Lib.isUpperB capB
    rw [Bool.eq_iff_iff]
    simp only [Bool.and_eq_true, decide_eq_true_eq, UInt8.le_iff_toNat_le]
    have h1 : (65 : UInt8).toNat = 65 := rfl
    have h2 : (90 : UInt8).toNat = 90 := rfl
    rw [h1, h2]
    omega
  rw [e]
theorem lowA_eq (l : List UInt8) : Lib.toLowerA l = lowL l := by
  unfold Lib.toLowerA lowL
  exact List.map_congr_left (fun c _ => low_eq c)

theorem set_cell1 {w : World} {g i j : Nat} {v u : Value} (hne : j ≠ i) (h : w.cell? ⟨g, j, none⟩ = some v) : (w.setCell ⟨g, i, none⟩ u).cell? ⟨g, j, none⟩ = some v := by
  rw [World.cell?_setCell_other _ _ _ _ (fun e => hne (by cases e; rfl)), h]
set_option maxRecDepth 100000 in
set_option maxHeartbeats 4000000 in
theorem Reverse_any (L : List UInt8) (n cp g : Nat) (w : World) (hn : L.length = n) (hs : n ≤ 1048576) (hr : RowB w g L) :
    Calls Tryz.prog 216 #[.slice (some ⟨g, 0, none⟩) n cp] w fun e w' => e = .returned (.tuple #[]) ∧ RowB w' g L.reverse ∧ w.grownBy w' (some g) := by
  have HN := Lib.hid hn
  have HLN := Lib.hid (revK_len L)
  have HLO := Lib.hid (fun k h h2 => revK_lo (L := L) (k := k) h h2)
  have HHI := Lib.hid (fun k h h2 => revK_hi (L := L) (k := k) h h2)
  have HSC := Lib.hid (fun k h => revK_succ (L := L) (k := k) h)
  have HE := Lib.hid (fun k h => revK_end (L := L) (k := k) h)
  have HR : Hid (RowB w g (revK L 0)) := Lib.hid (by rw [revK_zero]; exact hr)
  have HG : Hid (w.grownBy w (some g)) := Lib.hid ⟨rfl, rfl, rfl, Nat.le_refl _, fun _ _ _ => rfl⟩
  clear hr hn
  go_enter Tryz.func216, Tryz.ntmps216
  go_wp2_with fail
  go_loopw [2, 3] (fun iv jv wr => ∃ k : Nat, k ≤ n ∧ iv = .int .i64 k ∧ jv = .int .i64 ((n : Int) - 1 - k) ∧ Hid (RowB wr g (revK L k)) ∧ Hid (w.grownBy wr (some g))) (fun _ jv _ => (intOf jv + 1).toNat)
  case atStart => exact ⟨0, Nat.zero_le _, rfl, by go_num, HR, HG⟩
  case round =>
    clear HR HG
    obtain ⟨k, hk, rfl, rfl, HR, HG⟩ := hrel
    by_cases hlt : 2 * k + 1 < n
    · obtain ⟨j, hj⟩ : ∃ j, j = n - 1 - k := ⟨_, rfl⟩
      have hji : (n : Int) - 1 - k = (j : Int) := by omega
      have hjn : j < n := by omega
      have hkj : k < j := by omega
      rw [hji]
      have hk1 : k < (revK L k).length := by rw [HLN.out, HN.out]; omega
      have hj1 : j < (revK L k).length := by rw [HLN.out, HN.out]; omega
      have hkL : 2 * k + 1 < L.length := by rw [HN.out]; exact hlt
      have ejL : L.length - 1 - k = j := by rw [HN.out]; omega
      have c0 := HR.out.cell (i := k) hk1
      have c1 := HR.out.cell (i := j) hj1
      have f0 := HR.out.free (i := k) hk1
      have f1 := HR.out.free (i := j) hj1
      have q0 := HLO.out k hkL hk1
      have q1 := HHI.out k hkL (by rw [ejL]; exact hj1)
      have q2 := HSC.out k hkL
      simp only [ejL] at q1 q2
      rw [q0] at c0
      rw [q1] at c1
      have HS := Lib.hid q2
      have HJ : Hid (j + k + 1 = n) := Lib.hid (by omega)
      clear q0 q1 q2 hk1 hj1 hkL ejL hji hj
      generalize L.getD k 0 = x at *
      generalize L.getD j 0 = y at *
      go_wp2_with fail
      have hk2 : Below wr.heap.size wr wr.drew := (Below.refl _ _).drew
      have HRd := Lib.hid (HR.out.kept hk2)
      have HGd := Lib.hid (grownBy_trans HG.out (grown_of_below hk2))
      replace c0 := cell_kept c0 hk2
      replace c1 := cell_kept c1 hk2
      have f0' : wr.drew.frozen? ⟨g, k, none⟩ = false := f0
      have f1' : wr.drew.frozen? ⟨g, j, none⟩ = false := f1
      clear hk2 HR HG f0 f1
      have c2 : (wr.setCell ⟨g, k, none⟩ (.int .u8 (y.toNat : Int))).drew.cell? ⟨g, j, none⟩ = some (.int .u8 (y.toNat : Int)) := set_cell1 (w := wr.drew) (u := .int .u8 (y.toNat : Int)) (show j ≠ k by omega) c1
      have f2 : (wr.setCell ⟨g, k, none⟩ (.int .u8 (y.toNat : Int))).drew.frozen? ⟨g, j, none⟩ = false := (World.frozen?_setCell wr.drew _ _ _).trans f1'
      go_region
      all_goals
        obtain ⟨o0, k0⟩ := HRd.out.set k y
        obtain ⟨o1, k1⟩ := o0.set j x
        have HR2 := Lib.hid (o1.as HS.out.symm)
        have HG2 := Lib.hid (grownBy_trans (grownBy_trans HGd.out k0) k1)
        clear o0 o1 k0 k1 HRd HGd
        go_wp2
        go_roundw
        have hjn2 := HJ.out
        case rel => exact ⟨k + 1, by omega, by go_num, by go_num, HR2, HG2⟩
        case measure => (first | (simp [intOf]; done) | (simp [intOf]; omega))
    · have hR := HR.out
      rw [HE.out k (by rw [HN.out]; omega)] at hR
      have hno : ¬ (k : Int) < (n : Int) - 1 - k := by omega
      go_wp2
      go_end0
      exact ⟨rfl, hR, HG.out⟩
set_option maxRecDepth 100000 in
set_option maxHeartbeats 1000000 in
theorem reversed_any (s : ByteArray) (w : World) (hs : s.size ≤ 1048576) :
    Calls Tryz.prog 177 #[.string s] w fun e w' => e = .returned (.string (mkB s.data.toList.reverse)) ∧ Below w.heap.size w w' := by
  have hl : s.data.toList.length = s.size := by simp
  obtain ⟨cp, w1, hcp, hcv, hr, hb⟩ := bytes_of s w
  have HR := Lib.hid hr
  have HL := Lib.hid hl
  clear hl hr
  go_enter Tryz.func177, Tryz.ntmps177
  go_wp2_with fail
  clear hcv
  refine (Reverse_any s.data.toList s.size cp w.heap.size _ HL.out hs HR.out).mono ?_
  rintro e w2 ⟨rfl, h2, g2⟩
  have hb2 := hb.grown g2 hb.size (fun q h => by cases h; exact Nat.le_refl _)
  have hcv := h2.str (n := s.size) (cap := cp) (by rw [List.length_reverse, HL.out])
  clear h2 g2 hb HR
  go_wp2
  go_ret
  exact ⟨rfl, hb2⟩
theorem lower_ascii (s : ByteArray) (w : World) (hs : s.size ≤ 1048576) (ha : ∀ b ∈ s.data.toList, b.toNat < 128) :
    Calls Tryz.prog 176 #[.string s] w fun e w' => e = .returned (.string (mkB (lowL s.data.toList))) ∧ Below w.heap.size w w' := by
  have HS : Hid (∀ W, Calls Tryz.prog 215 #[.string s] W fun e w' => e = .returned (.string (mkB (lowL s.data.toList))) ∧ Below W.heap.size W w') := Lib.hid (fun W => by
    have := Tryz.strings_ToLower_ascii s W (by omega) (fun j b h => ha b (List.mem_of_getElem? h))
    rw [lowA_eq] at this
    exact this)
  clear ha
  go_enter Tryz.func176, Tryz.ntmps176
  go_wp2_with fail
  refine (HS.out _).mono ?_
  rintro e w' ⟨rfl, hd⟩
  go_wp2
  go_ret
  exact ⟨rfl, hd⟩
end Go.Proofs.YtoeoijkhlpacdaaGreatDoor
