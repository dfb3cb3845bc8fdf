/- Contracts: the reference's taking of tiles from a pile, the tiles of letters, the letters that a play places. For texts of at most a megabyte. -/
import Derived.Test.YtjdcdhhbgijaoaaGreatDoorLgA
import Derived.Test.YtjdcdhhbgijaoaaGreatDoorPlaD
import Derived.Test.YtjdcdhhbgijaoaaGreatDoorScE
namespace Go.Proofs.YtjdcdhhbgijaoaaGreatDoor
open Go.ChangeShapes Go.WideShapes Go.ChangeAt Go.RowKit Go.Sort

/-! ### Plain -/
def tlK (L : List UInt8) (k : Nat) : List UInt8 := (L.take k).map tlC ++ L.drop k
theorem tlK_zero (L : List UInt8) : tlK L 0 = L := by simp [tlK]
theorem tlK_end {L : List UInt8} {k : Nat} (h : L.length ≤ k) : tlK L k = L.map tlC := by
  unfold tlK
  rw [List.take_of_length_le h, List.drop_eq_nil_of_le h, List.append_nil]
theorem tlK_len (L : List UInt8) (k : Nat) : (tlK L k).length = L.length := by
  unfold tlK
  rw [List.length_append, List.length_map, ← List.length_append, List.take_append_drop]
theorem tlK_get {L : List UInt8} {k : Nat} (h : k < L.length) (h2 : k < (tlK L k).length) : (tlK L k)[k] = L[k] := by
  have e : (tlK L k)[k]? = some L[k] := by
    unfold tlK
    rw [List.getElem?_append_right (by simp; omega), List.getElem?_drop]
    have : k + (k - (List.map tlC (List.take k L)).length) = k := by simp; omega
    rw [this, List.getElem?_eq_getElem h]
  rw [List.getElem?_eq_getElem h2] at e
  simpa using e
theorem tlK_succ {L : List UInt8} {k : Nat} (h : k < L.length) : tlK L (k + 1) = (tlK L k).set k (tlC L[k]) := by
  unfold tlK
  rw [List.take_succ_eq_append_getElem h, List.map_append, List.set_append_right _ _ (by simp; omega), List.length_map, List.length_take, Nat.min_eq_left (by omega), Nat.sub_self, List.drop_eq_getElem_cons h, List.set_cons_zero]
  simp
theorem tlK_same {L : List UInt8} {k : Nat} (h : k < L.length) (hc : tlC L[k] = L[k]) : tlK L (k + 1) = tlK L k := by
  rw [tlK_succ h, hc]
  have h2 : k < (tlK L k).length := by rw [tlK_len]; exact h
  rw [← tlK_get h h2, List.set_getElem_self]
set_option maxRecDepth 100000 in
set_option maxHeartbeats 4000000 in
theorem l03Tiles_any (s : ByteArray) (w : World) (hs : s.size ≤ 1048576) :
    Calls Tryz.prog 122 #[.string s] w (SortPost w (s.data.toList.map tlC)) := by
  have hl : s.data.toList.length = s.size := by simp
  have HL := Lib.hid hl
  obtain ⟨cp, w1, hcp, hcv, hr, hb⟩ := bytes_of s w
  have HR : Hid (RowB w1 w.heap.size (tlK s.data.toList 0)) := Lib.hid (by rw [tlK_zero]; exact hr)
  have HLN := Lib.hid (tlK_len s.data.toList)
  have HE := Lib.hid (fun k h => tlK_end (L := s.data.toList) (k := k) h)
  have HSC := Lib.hid (fun k (h : k < s.size) => tlK_succ (L := s.data.toList) (k := k) (by simpa using h))
  have HSM := Lib.hid (fun k (h : k < s.size) => tlK_same (L := s.data.toList) (k := k) (by simpa using h))
  have HGT := Lib.hid (fun k (h : k < s.size) => tlK_get (L := s.data.toList) (k := k) (by simpa using h))
  clear hr hl
  go_enter Tryz.func122, Tryz.ntmps122
  go_wp2_with fail
  clear hcv
  go_loopw [4] (fun i wr => ∃ k : Nat, k ≤ s.size ∧ i = .int .i64 k ∧ Hid (RowB wr w.heap.size (tlK s.data.toList k)) ∧ Below w.heap.size w wr) (fun i _ => s.size - (intOf i).toNat)
  case atStart => exact ⟨0, Nat.zero_le _, rfl, HR, hb⟩
  case round =>
    clear HR hb
    obtain ⟨k, hk, rfl, HR, hb⟩ := hrel
    by_cases hlt : k < s.size
    · have hlk : k < (tlK s.data.toList k).length := by rw [HLN.out, HL.out]; exact hlt
      have c0 := HR.out.cell (i := k) hlk
      have f0 := HR.out.free (i := k) hlk
      rw [HGT.out k hlt hlk, bytes_get s k hlt] at c0
      cases hcap : capB (s[k].toNat : Int) with
      | true =>
        have hv := tlC_cap hcap
        obtain ⟨o0, k0⟩ := HR.out.set k (tlC s[k])
        have HR2 : Hid (RowB (wr.setCell ⟨w.heap.size, k, none⟩ (.int .u8 63)) w.heap.size (tlK s.data.toList (k + 1))) := Lib.hid (by
          rw [HSC.out k hlt, bytes_get s k hlt, ← hv]; exact o0)
        have hb2 : Below w.heap.size w (wr.setCell ⟨w.heap.size, k, none⟩ (.int .u8 63)) := by
          rw [← hv]
          exact hb.grown k0 hb.size (fun q h => by cases h; exact Nat.le_refl _)
        clear o0 k0 hv hlk
        go_wp2_with fail
        refine (l03Capital_any _ _).mono ?_
        rintro e w' ⟨rfl, rfl⟩
        rw [hcap]
        clear hcap HR hb
        go_wp2
        go_roundw
        case rel => exact ⟨k + 1, by omega, by go_num, HR2, hb2⟩
        case measure => simp [intOf]; omega
      | false =>
        have HR2 : Hid (RowB wr w.heap.size (tlK s.data.toList (k + 1))) := Lib.hid (by rw [HSM.out k hlt (by rw [bytes_get s k hlt]; exact tlC_not hcap)]; exact HR.out)
        clear hlk
        go_wp2_with fail
        refine (l03Capital_any _ _).mono ?_
        rintro e w' ⟨rfl, rfl⟩
        rw [hcap]
        clear hcap HR
        go_wp2
        go_roundw
        case rel => exact ⟨k + 1, by omega, by go_num, HR2, hb⟩
        case measure => simp [intOf]; omega
    · obtain rfl : k = s.size := by omega
      have hcv := HR.out.str (n := s.size) (cap := cp) (by rw [HLN.out, HL.out])
      rw [HE.out _ (by rw [HL.out]; exact Nat.le_refl _)] at hcv
      have hms : (mkB (s.data.toList.map tlC)).size ≤ 1048576 := by rw [mkB_size, List.length_map, HL.out]; exact hs
      have HM := Lib.hid (mkB_data (s.data.toList.map tlC))
      generalize mkB (s.data.toList.map tlC) = ms at *
      go_wp2_with fail
      refine (l03Sort_any ms _ hms).mono ?_
      rintro e w' ⟨R, rfl, h1, h2, hd⟩
      rw [HM.out] at h2
      have H1 := Lib.hid h1
      have H2 := Lib.hid h2
      replace hb := hb.trans (hd.mono hb.size)
      clear h1 h2 hd hcv HR
      go_wp2
      go_ret
      exact ⟨R, rfl, H1.out, H2.out, hb⟩

/-! ### The letters that a play places -/
def placedB (word : ByteArray) (fr : List Nat) : List UInt8 := fr.map fun i => word.data.toList.getD i 0
theorem placedB_take {word : ByteArray} {fr : List Nat} {k : Nat} (hk : k < fr.length) (hw : fr[k] < word.size) : placedB word (fr.take (k + 1)) = placedB word (fr.take k) ++ [word[fr[k]]] := by
  unfold placedB
  rw [List.take_succ_eq_append_getElem hk, List.map_append]
  simp only [List.map_cons, List.map_nil]
  rw [u8_byte hw]
theorem placedB_len (word : ByteArray) (fr : List Nat) : (placedB word fr).length = fr.length := by simp [placedB]
theorem own_n64At {w : World} {base g n cap : Nat} {l : List Nat} (h : w.ownsRow base 2 1 (.slice (some ⟨g, 0, none⟩) n cap) n (l.flatMap N64.enc)) {i : Nat} (hi : i < n) (hl : n = l.length) : w.cell? ⟨g, i, none⟩ = some (.int .i64 ((l[i]'(by omega) : Nat) : Int)) := by
  have h1 := h.cellAt i (by omega)
  have h2 := flatMap_get (enc := N64.enc) (sz := 1) (fun _ => rfl) l (i := i) (by omega) (j := 0) (by omega)
  rw [Nat.mul_one, Nat.add_zero] at h2
  rw [h1, h2]
  rfl
set_option maxRecDepth 100000 in
set_option maxHeartbeats 4000000 in
theorem l12Placed_of (f : Brd) (R C : Int) (dn : Bool) (word : ByteArray) (fr : List Nat) (x : Nat) (w : World) (hf : BAt w x 0 f)
    (HFR : Hid (∀ W, BAt W x 0 f → Calls Tryz.prog 98 #[.pointer (some ⟨x, 0, none⟩), .agg #[.int .i64 R, .int .i64 C, .bool dn, .string word]] W (NatsPost W fr)))
    (hfr : ∀ i ∈ fr, i < word.size) (hfl : fr.length ≤ 12) :
    Calls Tryz.prog 123 #[.pointer (some ⟨x, 0, none⟩), .agg #[.int .i64 R, .int .i64 C, .bool dn, .string word]] w (StrPost w (placedB word fr)) := by
  obtain ⟨i0, hi0, hi1, hi2, hi3⟩ := info_parts infoByte
  have hb : Below w.heap.size w (w.alloc (.cells #[.int .i64 R, .int .i64 C, .bool dn, .string word] 30)) := (Below.refl _ _).alloc (Nat.le_refl _) _
  have V0 := Lib.hid (VarAt.new w 30 [.int .i64 R, .int .i64 C, .bool dn, .string word])
  have HG := Lib.hid (hf.kept hb)
  have HLT : Hid (∀ k (h : k < fr.length), fr[k] < word.size) := Lib.hid (fun k h => hfr _ (List.getElem_mem h))
  obtain ⟨lt, hlt⟩ : ∃ lt : Nat → List UInt8, ∀ k, lt k = placedB word (fr.take k) := ⟨_, fun _ => rfl⟩
  have HL0 : Hid (lt 0 = []) := Lib.hid (by rw [hlt]; rfl)
  have HLS : Hid (∀ k (h : k < fr.length) (h2 : fr[k] < word.size), lt (k + 1) = lt k ++ [word[fr[k]]]) := Lib.hid (fun k h h2 => by rw [hlt, hlt]; exact placedB_take h h2)
  have HLE : Hid (lt fr.length = placedB word fr) := Lib.hid (by rw [hlt, List.take_length])
  have HLN : Hid (∀ k, k ≤ fr.length → (lt k).length = k) := Lib.hid (fun k h => by rw [hlt, placedB_len, List.length_take]; omega)
  rw [← HLE.out]
  clear hf hfr hlt HLE
  go_enter Tryz.func123, Tryz.ntmps123
  go_upto_region 1 with fail
  generalize w.alloc (.cells #[.int .i64 R, .int .i64 C, .bool dn, .string word] 30) = w1 at *
  have c0 := V0.out.cell (i := 0) rfl
  have c1 := V0.out.cell (i := 1) rfl
  have c2 := V0.out.cell (i := 2) rfl
  have c3 := V0.out.cell (i := 3) rfl
  go_wp2_with fail
  refine (HFR.out _ HG.out).mono ?_
  rintro e w2 ⟨g2, cap2, rfl, hown2, hd⟩
  have HF := Lib.hid hown2
  have hz2 := hb.size
  have hg2 : w.heap.size ≤ g2 ∧ g2 < w2.heap.size := by
    have := hown2.lt g2 rfl
    omega
  clear hown2 c0 c1 c2 c3
  replace hb := hb.trans (hd.mono hb.size)
  replace V0 := Lib.hid (V0.out.kept hd)
  clear hd
  obtain ⟨w3, hw3⟩ : ∃ w3, w3 = w2.alloc (.cells #[] 5) := ⟨_, rfl⟩
  have hd3 : Below w2.heap.size w2 w3 := by rw [hw3]; exact (Below.refl _ _).alloc (Nat.le_refl _) _
  have HO : Hid (w3.ownsRow w2.heap.size 5 1 (.slice (some ⟨w2.heap.size, 0, none⟩) 0 0) 0 ((lt 0).flatMap U8.enc)) := Lib.hid (by
    rw [hw3, HL0.out]
    exact World.ownsRow_made (base := w2.heap.size) (e := 5) (size := 1) w2 #[] 0 (Nat.le_refl _) (by unfold maxLen; omega) rfl)
  have HFC : Hid (∀ k (h : k < fr.length), w3.cell? ⟨g2, k, none⟩ = some (.int .i64 ((fr[k] : Nat) : Int))) := Lib.hid (fun k h => cell_kept (own_n64At HF.out h rfl) hd3)
  replace V0 := Lib.hid (V0.out.kept hd3)
  have hv0 : w.heap.size < w2.heap.size := by omega
  have hBz : w2.heap.size ≤ w3.heap.size := hd3.size
  replace hb := hb.trans (hd3.mono hb.size)
  have HW3 := Lib.hid hw3
  clear hw3 hd3 HF HL0 HFR HG
  go_upto_region 4 with fail
  rw [← HW3.out]
  clear HW3
  generalize w2.heap.size = B at *
  go_loopw [6, 7] (fun ov iv wr => ∃ (k g1 cap : Nat), k ≤ fr.length ∧ iv = .int .i64 k ∧ ov = .slice (some ⟨g1, 0, none⟩) k cap ∧ Hid (wr.ownsRow B 5 1 (.slice (some ⟨g1, 0, none⟩) k cap) k ((lt k).flatMap U8.enc)) ∧ Hid (VarAt wr w.heap.size 30 [.int .i64 R, .int .i64 C, .bool dn, .string word]) ∧ Hid (∀ k (h : k < fr.length), wr.cell? ⟨g2, k, none⟩ = some (.int .i64 ((fr[k] : Nat) : Int))) ∧ B ≤ wr.heap.size ∧ Below w.heap.size w wr) (fun _ iv _ => fr.length - (intOf iv).toNat)
  case atStart => exact ⟨0, _, 0, Nat.zero_le _, rfl, rfl, HO, V0, HFC, hBz, hb⟩
  case round =>
    clear HO V0 HFC hb
    obtain ⟨k, g1, cap, hk, rfl, rfl, HO, V0, HFC, hB, hb⟩ := hrel
    by_cases hk2 : k < fr.length
    · have hj := HLT.out k hk2
      have HS := Lib.hid (HLS.out k hk2 hj)
      have q0 := HFC.out k hk2
      have HQ : Hid (∀ W, Below wr.heap.size wr W → W.cell? ⟨g2, k, none⟩ = some (.int .i64 ((fr[k] : Nat) : Int))) := Lib.hid (fun W h => cell_kept (HFC.out k hk2) h)
      generalize fr[k] = j at *
      go_upto_region 6 with fail
      have hk3 : Below wr.heap.size wr wr.drew := (Below.refl _ _).drew
      have VZ := Lib.hid (V0.out.kept hk3)
      have k_2 := HQ.out _ hk3
      have hj2 : (0 : Int) ≤ (j : Int) ∧ (j : Int) < (word.size : Int) := by omega
      clear q0
      go_region_held3 (fun w' => w'.cell? ⟨w.heap.size, 3, none⟩ = some (.string word) ∧ w'.cell? ⟨g2, k, none⟩ = some (.int .i64 (j : Int)))
        (first | exact ⟨VZ.out.cell (i := 3) rfl, k_2⟩ | exact ⟨cell_alloc (VZ.out.cell (i := 3) rfl) _, cell_alloc k_2 _⟩)
        (((first | refine step_new_drew ?_ | refine step_new ?_); intro wz hxz hnz hoz; have nb0 := hnz.1 0 _ rfl; replace VZ := Lib.hid (VZ.out.kept hxz); replace k_2 := cell_kept k_2 hxz; replace hk3 := hk3.trans (hxz.mono hk3.size); have HO2 := Lib.hid (own_below HO.out hk3); have hzz := Nat.le_trans hB hk3.size; clear hxz hnz hoz; refine step_append_lies _ ?_ (.tmp 18) (.tmp 26) 22 ?_ B 5 i0 (.int .u8 0) 1 1 Tryz.underlying22 hi0 hi1 hi2 hi3 rfl (by decide) (.slice (some ⟨g1, 0, none⟩) k cap) k ((lt k).flatMap U8.enc) ?_ HO2.out ⟨_, 0, none⟩ 1 1 (U8.enc word[j]) ?_ rfl (newsN1 nb0) (u8_one1 word[j]) (by decide) ?_ ?_ hzz _ rfl ?_; (all_goals (first | rfl | (unfold maxLen; omega) | omega | skip)); intro g5 cap5 w5 ho5 hg5 hat5 hlt5; replace VZ := Lib.hid (VZ.out.grown hg5 (own_ne HO2.out (by omega))); replace k_2 := hg5.cell k_2 (own_ne HO2.out (show g2 < B by omega))))
      all_goals
        have hb5 := (hb.trans (hk3.mono hb.size)).grown hg5 (Nat.le_trans hb.size hk3.size) (fun q h => by have := (HO2.out.lt q h).1; omega)
        have HO5 : Hid (w5.ownsRow B 5 1 (.slice (some ⟨g5, 0, none⟩) (k + 1) cap5) (k + 1) ((lt (k + 1)).flatMap U8.enc)) := Lib.hid (by
          rw [HS.out, ← flat_snoc U8.enc]; exact ho5)
        have HFC5 : Hid (∀ k (h : k < fr.length), w5.cell? ⟨g2, k, none⟩ = some (.int .i64 ((fr[k] : Nat) : Int))) := Lib.hid (fun k h => hg5.cell (cell_kept (HFC.out k h) hk3) (own_ne HO2.out (show g2 < B by omega)))
        have hB5 : B ≤ w5.heap.size := Nat.le_trans hzz hg5.size
        clear ho5 hg5 hat5 hlt5 nb0 hk3 HO2 hzz HO hb V0 HFC k_2 HQ
        go_wp2
        go_roundw
        case rel => exact ⟨k + 1, g5, cap5, by omega, by go_num, by go_num, HO5, VZ, HFC5, hB5, hb5⟩
        case measure => simp [intOf]; omega
    · obtain rfl : k = fr.length := by omega
      have hcv := own_bytes HO.out (HLN.out _ (Nat.le_refl _)).symm
      clear HO HLS
      go_wp2
      go_ret
      exact ⟨rfl, hb⟩
end Go.Proofs.YtjdcdhhbgijaoaaGreatDoor
