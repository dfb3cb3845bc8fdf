/- Contracts: the reference's pattern of a slot, and the words that fit into it. For grids of at most 5 rows and columns. -/
import Derived.Test.YtjknpmdmchlfcaaGrB
import Derived.Deep.DeepMust
import Derived.Deep.RegionLaw
namespace Go.Proofs.Ytjknpmdmchlfcaa
open Go.ChangeShapes Go.WideShapes Go.ChangeAt Go.RowKit Go.Sort

theorem Drew.bel {a b : World} (h : Drew a b) : Below a.heap.size a b := h.below _
theorem news1 {w : World} {g : Nat} {x : Value} (h0 : w.cell? ⟨g, 0, none⟩ = some x) : ∀ j u, [x][j]? = some u → w.cell? ((⟨g, 0, none⟩ : Addr).add j) = some u := by
  intro j u hu
  rw [Go.Addr.add_lit, Nat.zero_add]
  match j, hu with
  | 0, hu => rw [h0]; exact hu
  | (j + 1), hu => simp at hu
theorem patL_take {C : Nat} {L : List UInt8} {s : Slt} {k : Nat} (h : k < s.len) : (patL C L s).take (k + 1) = (patL C L s).take k ++ [L.getD (sqr C s k) 0] := by
  rw [List.take_succ_eq_append_getElem (by rw [patL_len]; exact h)]
  simp [patL]
theorem getD_byte {s : ByteArray} {j : Nat} (h : j < s.size) : s.data.toList.getD j 0 = s[j] := by
  rw [List.getD_eq_getElem?_getD, List.getElem?_eq_getElem (by simpa using h)]
  rfl
theorem within_small {R C : Nat} {s : Slt} (h : s.within R C) (hR : R ≤ 5) (hC : C ≤ 5) (hl : 0 < s.len) : s.row ≤ 25 ∧ s.col ≤ 25 ∧ s.len ≤ 5 := by
  unfold Slt.within at h
  split at h <;> omega
set_option maxRecDepth 100000 in
set_option maxHeartbeats 4000000 in
theorem l25Pattern_any (R C : Nat) (gs : ByteArray) (s : Slt) (b o pb po : Nat) (w : World) (hg : GAt w b o R C gs) (hs : SAt w pb po s) (hin : s.within R C) (hR : R ≤ 5) (hC : C ≤ 5) (hz : gs.size = R * C) :
    Calls Try.prog 98 #[.pointer (some ⟨b, o, none⟩), .pointer (some ⟨pb, po, none⟩)] w (StrPost w (patL C gs.data.toList s)) := by
  obtain ⟨i0, hi0, hi1, hi2, hi3⟩ := info_parts infoByte
  have hx : Below w.heap.size w (w.alloc (.cells #[] 5)) := (Below.refl _ _).alloc (Nat.le_refl _) _
  have HO := Lib.hid (World.ownsRow_made (base := w.heap.size) (e := 5) (size := 1) w #[] 0 (Nat.le_refl _) (by unfold maxLen; omega) rfl)
  have hbw := hg.lt
  have hpw := block_lt hs.1
  have HG := Lib.hid (hg.kept hx)
  have HS := Lib.hid (hs.kept hx)
  have hb := hx
  have hpl := patL_len C gs.data.toList s
  have HPL := Lib.hid hpl
  have HSM := Lib.hid (fun h => within_small hin hR hC h)
  have HIX : Hid (∀ k, k < s.len → sqr C s k < gs.size) := Lib.hid (fun k hk => by rw [hz]; exact sqr_lt hin hk)
  have hln : s.len ≤ 5 := by unfold Slt.within at hin; split at hin <;> omega
  clear hx hg hs hpl hin hz
  go_enter Try.func98, Try.ntmps98
  go_wp2_with fail
  go_loopw [5, 6] (fun ov iv wr => ∃ (k g cap : Nat), k ≤ s.len ∧ iv = .int .i64 k ∧ ov = .slice (some ⟨g, 0, none⟩) k cap ∧ Hid (wr.ownsRow w.heap.size 5 1 (.slice (some ⟨g, 0, none⟩) k cap) k (((patL C gs.data.toList s).take k).flatMap U8.enc)) ∧ Hid (GAt wr b o R C gs) ∧ Hid (SAt wr pb po s) ∧ Below w.heap.size w wr) (fun _ iv _ => s.len - (intOf iv).toNat)
  case atStart => exact ⟨0, w.heap.size, 0, Nat.zero_le _, rfl, rfl, Lib.hid HO.out, HG, HS, hb⟩
  case round =>
    clear HO HG HS hb
    obtain ⟨k, g, cap, hk, rfl, rfl, HO, HG, HS, hb⟩ := hrel
    obtain ⟨s0, s1, s2, s3⟩ := HS.out
    obtain ⟨g0, g1, g2⟩ := HG.out
    by_cases hlt : k < s.len
    · obtain ⟨m1, m2, _⟩ := HSM.out (by omega)
      have hix := HIX.out k hlt
      have HQ : Hid (∀ W, GAt W b o R C gs → SAt W pb po s → Calls Try.prog 100 #[.pointer (some ⟨b, o, none⟩), .pointer (some ⟨pb, po, none⟩), .int .i64 k] W fun e w' => e = .returned (.int .i64 (sqr C s k : Int)) ∧ Drew W w') := Lib.hid (fun W h1 h2 => l25Square_any R C gs s k b o pb po W h1 h2 m1 m2 hC (by omega))
      have HT := Lib.hid (patL_take (C := C) (L := gs.data.toList) hlt)
      rw [getD_byte hix] at HT
      clear m1 m2
      generalize sqr C s k = j at *
      go_upto_region 5 with fail
      have hk2 : Below wr.heap.size wr wr.drew := (Below.refl _ _).drew
      have k_2 : wr.drew.cell? ⟨b, o + 2, none⟩ = some (.string gs) := g2
      go_region_held3 (fun w' => w'.cell? ⟨b, o + 2, none⟩ = some (.string gs))
        (first | exact k_2 | exact cell_alloc k_2 _)
        (first
          | (go_at_call 100; refine (HQ.out _ (HG.out.kept hk2) (HS.out.kept hk2)).mono ?_; rintro e wq ⟨rfl, hdq⟩; have hdd := hdq.bel; replace k_2 := cell_kept k_2 hdd; replace hk2 := hk2.trans (hdd.mono hk2.size); clear hdq hdd)
          | ((first | refine step_new_drew ?_ | refine step_new ?_); intro wz hxz hnz hoz; have nb0 := hnz.1 0 _ rfl; replace k_2 := cell_kept k_2 hxz; replace hk2 := hk2.trans (hxz.mono hk2.size); have HO2 := Lib.hid (own_below HO.out hk2); have hzz := Nat.le_trans hb.size hk2.size; clear hxz hnz hoz; refine step_append_lies _ ?_ (.tmp 16) (.tmp 26) 39 ?_ w.heap.size 5 i0 (.int .u8 0) 1 1 Try.underlying39 hi0 hi1 hi2 hi3 rfl (by decide) (.slice (some ⟨g, 0, none⟩) k cap) k (((patL C gs.data.toList s).take k).flatMap U8.enc) ?_ HO2.out ⟨_, 0, none⟩ 1 1 (U8.enc gs[j]) ?_ rfl (news1 nb0) (u8_one1 gs[j]) (by decide) ?_ ?_ hzz _ rfl ?_; (all_goals (first | rfl | (unfold maxLen; omega) | omega | skip)); intro g5 cap5 w5 ho5 hg5 hat5 hlt5; replace k_2 := hg5.cell k_2 (own_ne (G := b) HO2.out hbw)))
      all_goals
        have hb5 := (hb.trans (hk2.mono hb.size)).grown hg5 hzz (fun q h => (HO2.out.lt q h).1)
        have HG5 := Lib.hid ((HG.out.kept hk2).grown hg5 (own_ne HO2.out hbw))
        have HS5 := Lib.hid ((HS.out.kept hk2).grown hg5 (own_ne HO2.out hpw))
        have HO5 : Hid (w5.ownsRow w.heap.size 5 1 (.slice (some ⟨g5, 0, none⟩) (k + 1) cap5) (k + 1) (((patL C gs.data.toList s).take (k + 1)).flatMap U8.enc)) := Lib.hid (by
          rw [HT.out, ← flat_snoc U8.enc]; exact ho5)
        clear ho5 hg5 hat5 hlt5 nb0 k_2 hk2 HO2 hzz
        go_wp2
        go_roundw
        case rel => exact ⟨k + 1, g5, cap5, by omega, by go_num, by go_num, HO5, HG5, HS5, hb5⟩
        case measure => simp [intOf]; omega
    · obtain rfl : k = s.len := by omega
      have hcv := own_bytes (l := (patL C gs.data.toList s).take s.len) HO.out (by rw [List.length_take, HPL.out]; omega)
      rw [List.take_of_length_le (by rw [HPL.out]; exact Nat.le_refl _)] at hcv
      go_wp2
      go_ret
      exact ⟨rfl, hb⟩
end Go.Proofs.Ytjknpmdmchlfcaa
