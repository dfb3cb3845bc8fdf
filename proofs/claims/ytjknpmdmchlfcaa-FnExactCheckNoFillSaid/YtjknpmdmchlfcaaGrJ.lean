/- Contracts: the program's slots of a grid, a slot's pattern, the words that fit into it. For grids of at most 5 rows and columns, and words of ASCII bytes. -/
import Derived.Test.YtjknpmdmchlfcaaGrI
namespace Go.Proofs.Ytjknpmdmchlfcaa
open Go.ChangeShapes Go.WideShapes Go.ChangeAt Go.RowKit Go.Sort

set_option maxRecDepth 100000 in
set_option maxHeartbeats 8000000 in
theorem slots_any (R C : Nat) (gs : ByteArray) (w : World) (hR : R ≤ 5) (hC : C ≤ 5) (hz : gs.size = R * C) :
    Calls Try.prog 35 #[.agg #[.int .i64 R, .int .i64 C, .string gs]] w (SlotsPost w (slots R C gs.data.toList)) := by
  obtain ⟨i0, hi0, hi1, hi2, hi3⟩ := info_parts infoSlt
  have hb := (Below.refl w.heap.size w).alloc (Nat.le_refl _) (.cells #[.int .i64 R, .int .i64 C, .string gs] 31)
  have HG := Lib.hid (GAt.new w R C gs 31)
  have HA : Hid (∀ W, Calls Try.prog 65 #[.agg #[.int .i64 R, .int .i64 C, .string gs]] W (SlotsPost W (across R C gs.data.toList))) := Lib.hid (fun W => across_any R C gs W hR hC hz)
  have HTU : Hid (∀ W, Calls Try.prog 66 #[.agg #[.int .i64 R, .int .i64 C, .string gs]] W fun e w' => e = .returned (.agg #[.int .i64 C, .int .i64 R, .string (mkB (turnL R C gs.data.toList))]) ∧ Below W.heap.size W w') := Lib.hid (fun W => turned_any R C gs W hR hC hz)
  have HD : Hid (∀ W, Calls Try.prog 65 #[.agg #[.int .i64 C, .int .i64 R, .string (mkB (turnL R C gs.data.toList))]] W (SlotsPost W (across C R (turnL R C gs.data.toList)))) := Lib.hid (fun W => by
    have := across_any C R (mkB (turnL R C gs.data.toList)) W hC hR (by rw [mkB_size, turnL_len])
    rwa [mkB_data] at this)
  have HSL := Lib.hid (slots_eq R C gs.data.toList)
  have hl1 : (across R C gs.data.toList).length ≤ 30 := by
    have h1 := across_len R C gs.data.toList
    have h2 : R * (C + 1) ≤ 5 * 6 := Nat.mul_le_mul (by omega) (by omega)
    omega
  have hl2 : (across C R (turnL R C gs.data.toList)).length ≤ 30 := by
    have h1 := across_len C R (turnL R C gs.data.toList)
    have h2 : C * (R + 1) ≤ 5 * 6 := Nat.mul_le_mul (by omega) (by omega)
    omega
  clear hz
  generalize mkB (turnL R C gs.data.toList) = ts at *
  generalize across C R (turnL R C gs.data.toList) = ds at *
  generalize across R C gs.data.toList = xs at *
  obtain ⟨g0, g1, g2⟩ := HG.out
  go_enter Try.func35, Try.ntmps35
  go_wp2_with fail
  refine (HA.out _).mono ?_
  rintro e w1 ⟨g, cap, rfl, ho, hd⟩
  have HO := Lib.hid ho
  have hg1 := (ho.lt g rfl).2
  replace HG := Lib.hid (HG.out.kept hd)
  have HO := Lib.hid (own_mono ho hb.size)
  replace hb := hb.trans (hd.mono hb.size)
  clear ho HA hd g0 g1 g2
  obtain ⟨g0, g1, g2⟩ := HG.out
  go_wp2_with fail
  refine (HTU.out _).mono ?_
  rintro e w2 ⟨rfl, hd⟩
  replace HO := Lib.hid (own_below HO.out hd)
  replace hb := hb.trans (hd.mono hb.size)
  have hg2 := Nat.lt_of_lt_of_le hg1 hd.size
  clear hd HTU hg1 g0 g1 g2 HG
  go_wp2_with fail
  refine (HD.out _).mono ?_
  rintro e w3 ⟨gd, capd, rfl, hod, hd⟩
  replace HO := Lib.hid (own_below HO.out hd)
  have hgd := (hod.lt gd rfl)
  have HNE : Hid (some gd ≠ (Value.slice (some ⟨g, 0, none⟩) xs.length cap).ownBlock) := Lib.hid (by simp [Value.ownBlock]; omega)
  have HDO := Lib.hid (own_mono hod (show w.heap.size ≤ _ from hb.size))
  replace hb := hb.trans (hd.mono hb.size)
  clear hd hod hgd HD hg2
  go_wp2_with fail
  go_loopw [3, 12] (fun ov iv wr => ∃ (k g cap : Nat), k ≤ ds.length ∧ iv = .int .i64 k ∧ ov = .slice (some ⟨g, 0, none⟩) (xs ++ (ds.take k).map Slt.swap).length cap ∧ Hid (wr.ownsRow w.heap.size 114 4 (.slice (some ⟨g, 0, none⟩) (xs ++ (ds.take k).map Slt.swap).length cap) (xs ++ (ds.take k).map Slt.swap).length ((xs ++ (ds.take k).map Slt.swap).flatMap Slt.enc)) ∧ Hid (wr.ownsRow w.heap.size 114 4 (.slice (some ⟨gd, 0, none⟩) ds.length capd) ds.length (ds.flatMap Slt.enc)) ∧ Hid (some gd ≠ (Value.slice (some ⟨g, 0, none⟩) (xs ++ (ds.take k).map Slt.swap).length cap).ownBlock) ∧ Below w.heap.size w wr) (fun _ iv _ => ds.length - (intOf iv).toNat)
  case atStart => exact ⟨0, g, cap, Nat.zero_le _, rfl, by simp, by simpa using HO, HDO, by simpa using HNE, hb⟩
  case round =>
    clear HO HDO HNE hb
    obtain ⟨k, g, cap, hk, rfl, rfl, HO, HDO, HNE, hb⟩ := hrel
    by_cases hlt : k < ds.length
    · have hl3 : (xs ++ (ds.take k).map Slt.swap).length ≤ 60 := by simp; omega
      have HMT : Hid (xs ++ (ds.take (k + 1)).map Slt.swap = (xs ++ (ds.take k).map Slt.swap) ++ [ds[k].swap]) := Lib.hid (by rw [map_take hlt, List.append_assoc])
      have c0 := own_cells Slt.enc_len HDO.out rfl hlt (j := 0) (v := .int .i64 (ds[k].row : Int)) rfl
      have c1 := own_cells Slt.enc_len HDO.out rfl hlt (j := 1) (v := .int .i64 (ds[k].col : Int)) rfl
      have c2 := own_cells Slt.enc_len HDO.out rfl hlt (j := 2) (v := .bool ds[k].down) rfl
      have c3 := own_cells Slt.enc_len HDO.out rfl hlt (j := 3) (v := .int .i64 (ds[k].len : Int)) rfl
      rw [Nat.add_zero] at c0
      generalize ds[k] = d at *
      generalize xs ++ (ds.take k).map Slt.swap = ys at *
      have hx : Below wr.heap.size wr ((wr.alloc (.cells #[.int .i64 (d.row : Int), .int .i64 (d.col : Int), .bool d.down, .int .i64 (d.len : Int)] 114)).alloc (.cells #[.int .i64 (d.col : Int), .int .i64 (d.row : Int), .bool true, .int .i64 (d.len : Int)] 114)) := ((Below.refl _ _).alloc (Nat.le_refl _) _).alloc (by simp) _
      have KN := Lib.hid (new_slt (wr.alloc (.cells #[.int .i64 (d.row : Int), .int .i64 (d.col : Int), .bool d.down, .int .i64 (d.len : Int)] 114)) d.swap 114)
      have hsa : (wr.alloc (.cells #[.int .i64 (d.row : Int), .int .i64 (d.col : Int), .bool d.down, .int .i64 (d.len : Int)] 114)).heap.size = wr.heap.size + 1 := by simp
      rw [hsa] at KN
      have KO := Lib.hid (own_below HO.out hx)
      have KD := Lib.hid (own_below HDO.out hx)
      have hsz := hb.size
      have hb2 := hb.trans (hx.mono hb.size)
      have HGD := Lib.hid ((HDO.out.lt gd rfl).2)
      clear hx HO HDO hb hsa
      go_wp2_with (at_builtin; go_must (refine wpList_append_lies _ rfl (.tmp 16) (.tmp 24) 84 rfl w.heap.size 114 i0 _ 4 32 Try.underlying84 hi0 hi1 hi2 hi3 rfl (by decide) _ ys.length (ys.flatMap Slt.enc) (by rfl) KO.out ⟨wr.heap.size + 1, 0, none⟩ 1 1 (Slt.enc d.swap) (by rfl) rfl KN.out (slt_one d.swap) (by decide) ?c1 ?c2 ?c3 _ rfl ?_))
      case c1 => unfold maxLen; omega
      case c2 => omega
      (try case c3 => (first | omega | (simp only [World.size_alloc]; omega)))
      intro g7 cap7 w7 hown hgr hat hlt7
      have hb7 := hb2.grown hgr hb2.size (fun q e => (KO.out.lt q e).1)
      have HL7 : Hid ((ys ++ [d.swap]).length = ys.length + 1) := Lib.hid (by simp)
      have HO7 := Lib.hid (own_as hown (flat_snoc Slt.enc ys d.swap))
      have HD7 := Lib.hid (KD.out.kept hgr (.inr HNE.out))
      have HN7 : Hid (some gd ≠ (Value.slice (some ⟨g7, 0, none⟩) (ys.length + 1) cap7).ownBlock) := Lib.hid (ne_behind hat HNE.out (by have := HGD.out; simp; omega))
      clear hown hgr hat hlt7 KN KO KD hb2 c0 c1 c2 c3
      go_wp2
      go_roundw
      case rel => exact ⟨k + 1, g7, cap7, by omega, by go_num, by rw [HMT.out, HL7.out], by rw [HMT.out, HL7.out]; exact HO7, HD7, by rw [HMT.out, HL7.out]; exact HN7, hb7⟩
      case measure => simp [intOf]; omega
    · obtain rfl : k = ds.length := by omega
      have HE : Hid (slots R C gs.data.toList = xs ++ (ds.take ds.length).map Slt.swap) := Lib.hid (by rw [HSL.out, List.take_length])
      go_wp2
      go_ret
      exact ⟨g, cap, by rw [HE.out]; rfl, by rw [HE.out]; exact HO.out, hb⟩
end Go.Proofs.Ytjknpmdmchlfcaa
