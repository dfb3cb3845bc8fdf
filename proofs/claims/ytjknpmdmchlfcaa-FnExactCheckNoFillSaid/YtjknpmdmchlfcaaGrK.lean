/- Contracts: the program's pattern of a slot and the words that fit into it. For grids of at most 5 rows and columns, and words of ASCII bytes. -/
import Derived.Test.YtjknpmdmchlfcaaGrJ
namespace Go.Proofs.Ytjknpmdmchlfcaa
open Go.ChangeShapes Go.WideShapes Go.ChangeAt Go.RowKit Go.Sort

set_option maxRecDepth 100000 in
set_option maxHeartbeats 4000000 in
theorem pattern_any (R C : Nat) (gs : ByteArray) (s : Slt) (w : World) (hin : s.within R C) (hR : R ≤ 5) (hC : C ≤ 5) (hz : gs.size = R * C) :
    Calls Try.prog 104 #[.agg #[.int .i64 R, .int .i64 C, .string gs], .agg #[.int .i64 (s.row : Int), .int .i64 (s.col : Int), .bool s.down, .int .i64 (s.len : Int)]] w (StrPost w (patL C gs.data.toList s)) := by
  obtain ⟨i0, hi0, hi1, hi2, hi3⟩ := info_parts infoByte
  obtain ⟨w3, hw3⟩ : ∃ w3, w3 = ((w.alloc (.cells #[.int .i64 R, .int .i64 C, .string gs] 31)).alloc (.cells #[.int .i64 (s.row : Int), .int .i64 (s.col : Int), .bool s.down, .int .i64 (s.len : Int)] 114)).alloc (.cells #[] 5) := ⟨_, rfl⟩
  have hb : Below w.heap.size w w3 := by rw [hw3]; exact (((Below.refl _ _).alloc (Nat.le_refl _) _).alloc (by simp) _).alloc (by simp; omega) _
  have VG : Hid (VarAt w3 w.heap.size 31 [.int .i64 R, .int .i64 C, .string gs]) := by
    rw [hw3]
    exact Lib.hid (((VarAt.new w 31 [.int .i64 R, .int .i64 C, .string gs]).kept ((Below.refl _ _).alloc (Nat.le_refl _) _)).kept ((Below.refl _ _).alloc (Nat.le_refl _) _))
  have VS : Hid (VarAt w3 (w.heap.size + 1) 114 [.int .i64 (s.row : Int), .int .i64 (s.col : Int), .bool s.down, .int .i64 (s.len : Int)]) := by
    rw [hw3]
    have := (VarAt.new (w.alloc (.cells #[.int .i64 R, .int .i64 C, .string gs] 31)) 114 [.int .i64 (s.row : Int), .int .i64 (s.col : Int), .bool s.down, .int .i64 (s.len : Int)]).kept ((Below.refl _ _).alloc (Nat.le_refl _) (.cells #[] 5))
    simp only [World.size_alloc] at this
    exact Lib.hid this
  have HO : Hid (w3.ownsRow (w.heap.size + 1 + 1) 5 1 (.slice (some ⟨w.heap.size + 1 + 1, 0, none⟩) 0 0) 0 []) := by
    rw [hw3]
    have := World.ownsRow_made (base := w.heap.size + 1 + 1) (e := 5) (size := 1) ((w.alloc (.cells #[.int .i64 R, .int .i64 C, .string gs] 31)).alloc (.cells #[.int .i64 (s.row : Int), .int .i64 (s.col : Int), .bool s.down, .int .i64 (s.len : Int)] 114)) #[] 0 (by simp) (by unfold maxLen; omega) rfl
    simp only [World.size_alloc] at this
    exact Lib.hid this
  have hpl := patL_len C gs.data.toList s
  have HPL := Lib.hid hpl
  have HSM := Lib.hid (fun h => within_small hin hR hC h)
  have HIX : Hid (∀ k, k < s.len → sqr C s k < gs.size) := Lib.hid (fun k hk => by rw [hz]; exact sqr_lt hin hk)
  have hln : s.len ≤ 5 := by unfold Slt.within at hin; split at hin <;> omega
  have HW3 := Lib.hid hw3
  clear hpl hin hz hw3
  go_enter Try.func104, Try.ntmps104
  go_wp2_with fail
  rw [← HW3.out]
  clear HW3
  go_loopw [5, 6] (fun ov iv wr => ∃ (k g cap : Nat), k ≤ s.len ∧ iv = .int .i64 k ∧ ov = .slice (some ⟨g, 0, none⟩) k cap ∧ Hid (wr.ownsRow (w.heap.size + 1 + 1) 5 1 (.slice (some ⟨g, 0, none⟩) k cap) k (((patL C gs.data.toList s).take k).flatMap U8.enc)) ∧ Hid (VarAt wr w.heap.size 31 [.int .i64 R, .int .i64 C, .string gs]) ∧ Hid (VarAt wr (w.heap.size + 1) 114 [.int .i64 (s.row : Int), .int .i64 (s.col : Int), .bool s.down, .int .i64 (s.len : Int)]) ∧ Below w.heap.size w wr) (fun _ iv _ => s.len - (intOf iv).toNat)
  case atStart => exact ⟨0, _, 0, Nat.zero_le _, rfl, rfl, HO, VG, VS, hb⟩
  case round =>
    clear HO VG VS hb
    obtain ⟨k, g, cap, hk, rfl, rfl, HO, VG, VS, hb⟩ := hrel
    have s3 := VS.out.cell (i := 3) rfl
    by_cases hlt : k < s.len
    · obtain ⟨m1, m2, _⟩ := HSM.out (by omega)
      have hix := HIX.out k hlt
      have HQ : Hid (∀ W, Calls Try.prog 108 #[.agg #[.int .i64 R, .int .i64 C, .string gs], .agg #[.int .i64 (s.row : Int), .int .i64 (s.col : Int), .bool s.down, .int .i64 (s.len : Int)], .int .i64 k] W fun e w' => e = .returned (.int .i64 (sqr C s k : Int)) ∧ Below W.heap.size W w') := Lib.hid (fun W => gindex_any R C gs s k W m1 m2 hC (by omega))
      have HT := Lib.hid (patL_take (C := C) (L := gs.data.toList) hlt)
      rw [getD_byte hix] at HT
      clear m1 m2
      generalize sqr C s k = j at *
      go_upto_region 5 with fail
      have hk2 : Below wr.heap.size wr wr.drew := (Below.refl _ _).drew
      have kg := Lib.hid (VG.out.kept hk2)
      have ks := Lib.hid (VS.out.kept hk2)
      go_region_held3 (fun w' => w'.cell? ⟨w.heap.size, 0, none⟩ = some (.int .i64 R) ∧ w'.cell? ⟨w.heap.size, 1, none⟩ = some (.int .i64 C) ∧ w'.cell? ⟨w.heap.size, 2, none⟩ = some (.string gs) ∧ w'.cell? ⟨w.heap.size + 1, 0, none⟩ = some (.int .i64 (s.row : Int)) ∧ w'.cell? ⟨w.heap.size + 1, 1, none⟩ = some (.int .i64 (s.col : Int)) ∧ w'.cell? ⟨w.heap.size + 1, 2, none⟩ = some (.bool s.down) ∧ w'.cell? ⟨w.heap.size + 1, 3, none⟩ = some (.int .i64 (s.len : Int)))
        (first | exact ⟨kg.out.cell (i := 0) rfl, kg.out.cell (i := 1) rfl, kg.out.cell (i := 2) rfl, ks.out.cell (i := 0) rfl, ks.out.cell (i := 1) rfl, ks.out.cell (i := 2) rfl, ks.out.cell (i := 3) rfl⟩ | exact ⟨cell_alloc (kg.out.cell (i := 0) rfl) _, cell_alloc (kg.out.cell (i := 1) rfl) _, cell_alloc (kg.out.cell (i := 2) rfl) _, cell_alloc (ks.out.cell (i := 0) rfl) _, cell_alloc (ks.out.cell (i := 1) rfl) _, cell_alloc (ks.out.cell (i := 2) rfl) _, cell_alloc (ks.out.cell (i := 3) rfl) _⟩)
        (first
          | (go_at_call 108; refine (HQ.out _).mono ?_; rintro e wq ⟨rfl, hdd⟩; replace kg := Lib.hid (kg.out.kept hdd); replace ks := Lib.hid (ks.out.kept hdd); replace hk2 := hk2.trans (hdd.mono hk2.size); clear hdd)
          | ((first | refine step_new_drew ?_ | refine step_new ?_); intro wz hxz hnz hoz; have nb0 := hnz.1 0 _ rfl; replace kg := Lib.hid (kg.out.kept hxz); replace ks := Lib.hid (ks.out.kept hxz); replace hk2 := hk2.trans (hxz.mono hk2.size); have HO2 := Lib.hid (own_below HO.out hk2); have hzz := Nat.le_trans (Nat.succ_le_of_lt VS.out.lt) hk2.size; clear hxz hnz hoz; refine step_append_lies _ ?_ (.tmp 14) (.tmp 22) 39 ?_ (w.heap.size + 1 + 1) 5 i0 (.int .u8 0) 1 1 Try.underlying39 hi0 hi1 hi2 hi3 rfl (by decide) (.slice (some ⟨g, 0, none⟩) k cap) k (((patL C gs.data.toList s).take k).flatMap U8.enc) ?_ HO2.out ⟨_, 0, none⟩ 1 1 (U8.enc gs[j]) ?_ rfl (news1 nb0) (u8_one1 gs[j]) (by decide) ?_ ?_ hzz _ rfl ?_; (all_goals (first | rfl | (unfold maxLen; omega) | omega | skip)); intro g5 cap5 w5 ho5 hg5 hat5 hlt5; replace kg := Lib.hid (kg.out.grown hg5 (own_ne HO2.out (by omega))); replace ks := Lib.hid (ks.out.grown hg5 (own_ne HO2.out (by omega)))))
      all_goals
        have hb5 := (hb.trans (hk2.mono hb.size)).grown hg5 (Nat.le_trans hb.size hk2.size) (fun q h => by have := (HO2.out.lt q h).1; omega)
        have HO5 : Hid (w5.ownsRow (w.heap.size + 1 + 1) 5 1 (.slice (some ⟨g5, 0, none⟩) (k + 1) cap5) (k + 1) (((patL C gs.data.toList s).take (k + 1)).flatMap U8.enc)) := Lib.hid (by
          rw [HT.out, ← flat_snoc U8.enc]; exact ho5)
        clear ho5 hg5 hat5 hlt5 nb0 hk2 HO2 hzz s3
        go_wp2
        go_roundw
        case rel => exact ⟨k + 1, g5, cap5, by omega, by go_num, by go_num, HO5, kg, ks, hb5⟩
        case measure => simp [intOf]; omega
    · obtain rfl : k = s.len := by omega
      have hcv := own_bytes (l := (patL C gs.data.toList s).take s.len) HO.out (by rw [List.length_take, HPL.out]; omega)
      rw [List.take_of_length_le (by rw [HPL.out]; exact Nat.le_refl _)] at hcv
      go_wp2
      go_ret
      exact ⟨rfl, hb⟩
theorem cand1_any (x pt : ByteArray) (pb : Nat) (w : World) (hc : w.cell? ⟨pb, 0, none⟩ = some (.string pt)) (hp : pt.size ≤ 9223372036854775807) (hx : x.size ≤ 9223372036854775807) (ha : Ascii x) :
    Calls Try.prog 106 #[.string x, .pointer (some ⟨pb, 0, none⟩)] w fun e w' => e = .returned (.bool (fitsL pt.data.toList x.data.toList)) ∧ Below w.heap.size w w' := by
  have H := Lib.hid (fitsPattern_any pt x w hp hx ha)
  clear ha
  go_enter Try.func106, Try.ntmps106
  go_wp2_with fail
  refine H.out.mono ?_
  rintro e w2 ⟨rfl, hd⟩
  go_wp2
  go_ret
  exact ⟨rfl, hd⟩
set_option maxRecDepth 100000 in
set_option maxHeartbeats 4000000 in
theorem selectedCand_any (ws : List ByteArray) (pt : ByteArray) (pb : Nat) (a : Option Addr) (wc : Nat) (w : World) (hc : w.cell? ⟨pb, 0, none⟩ = some (.string pt)) (hw : SliceAt w 1 Tx.enc a ws) (hl : ws.length ≤ 200) (hf : WordsFit ws) (hA : ∀ x ∈ ws, Ascii x) (hp : pt.size ≤ 9223372036854775807) :
    Calls Try.prog 105 #[.slice a ws.length wc, .func (.func 106) #[] #[.pointer (some ⟨pb, 0, none⟩)]] w (TextsPost w (ws.filter fun x => fitsL pt.data.toList x.data.toList)) := by
  obtain ⟨i0, hi0, hi1, hi2, hi3⟩ := info_parts infoTx
  have HW0 := Lib.hid hw
  have HC0 := Lib.hid hc
  have HFT : Hid (∀ x W, x ∈ ws → W.cell? ⟨pb, 0, none⟩ = some (.string pt) → Calls Try.prog 106 #[.string x, .pointer (some ⟨pb, 0, none⟩)] W fun e w' => e = .returned (.bool (fitsL pt.data.toList x.data.toList)) ∧ Below W.heap.size W w') := Lib.hid (fun x W h1 h2 => cand1_any x pt pb W h2 hp (hf x h1) (hA x h1))
  clear hf hA hp hw hc
  have HFE : Hid (∀ fp : ByteArray → Bool, (fun x : ByteArray => fitsL pt.data.toList x.data.toList) = fp → ws.filter (fun x => fitsL pt.data.toList x.data.toList) = ws.filter fp) := Lib.hid (fun fp h => by rw [h])
  generalize hfp : (fun x : ByteArray => fitsL pt.data.toList x.data.toList) = fp at *
  have HFP : Hid (∀ x : ByteArray, fitsL pt.data.toList x.data.toList = fp x) := Lib.hid (fun x => by rw [← hfp])
  clear hfp HFE
  have hx : Below w.heap.size w (w.alloc (.cells #[] 9)) := (Below.refl _ _).alloc (Nat.le_refl _) _
  have HO := Lib.hid (World.ownsRow_made (base := w.heap.size) (e := 9) (size := 1) w #[] 0 (Nat.le_refl _) (by unfold maxLen; omega) rfl)
  have hb := hx
  clear hx
  go_enter Try.func105, Try.ntmps105
  go_wp2_with fail
  go_loopw [5, 11] (fun ov iv wr => ∃ (k g cap : Nat), k ≤ ws.length ∧ iv = .int .i64 k ∧ ov = .slice (some ⟨g, 0, none⟩) ((ws.take k).filter fp).length cap ∧ Hid (wr.ownsRow w.heap.size 9 1 (.slice (some ⟨g, 0, none⟩) ((ws.take k).filter fp).length cap) ((ws.take k).filter fp).length (((ws.take k).filter fp).flatMap Tx.enc)) ∧ Below w.heap.size w wr) (fun _ iv _ => ws.length - (intOf iv).toNat)
  case atStart => exact ⟨0, _, 0, Nat.zero_le _, rfl, rfl, HO, hb⟩
  case round =>
    clear HO hb
    obtain ⟨k, g, cap, hk, rfl, rfl, HO, hb⟩ := hrel
    by_cases hlt : k < ws.length
    · obtain ⟨mb, mo, rfl, hc⟩ := (HW0.out.kept hb).open hlt
      have c0 := words_cell hc hlt
      have HSU := Lib.hid (filter_succ (p := fp) hlt)
      have hfl := filter_le (ws := ws) (p := fp) k
      have HFX := Lib.hid (HFT.out (ws.getD k ⟨#[]⟩) wr (by rw [getD_at hlt]; exact List.getElem_mem hlt) (cell_kept HC0.out hb))
      rw [HFP.out] at HFX
      clear hc
      generalize ws.getD k ⟨#[]⟩ = x at *
      go_wp2_with fail
      refine HFX.out.mono ?_
      rintro e w2 ⟨rfl, hd⟩
      replace HO := Lib.hid (own_below HO.out hd)
      replace hb := hb.trans (hd.mono hb.size)
      clear hd HFX c0
      cases hp : fp x with
      | false =>
        have HN : Hid ((ws.take (k + 1)).filter fp = (ws.take k).filter fp) := Lib.hid (by rw [HSU.out, hp]; simp)
        clear hp HSU
        go_wp2
        go_roundw
        case rel => exact ⟨k + 1, g, cap, by omega, by go_num, by rw [HN.out], by rw [HN.out]; exact HO, hb⟩
        case measure => simp [intOf]; omega
      | true =>
        have HN : Hid ((ws.take (k + 1)).filter fp = (ws.take k).filter fp ++ [x]) := Lib.hid (by rw [HSU.out, hp]; simp)
        clear hp HSU
        generalize (ws.take k).filter fp = xs at *
        have hx : Below w2.heap.size w2 (w2.alloc (.cells #[.string x] 9)) := (Below.refl _ _).alloc (Nat.le_refl _) _
        have KN := Lib.hid (new_tx w2 x 9)
        have hsz := hb.size
        replace HO := Lib.hid (own_below HO.out hx)
        replace hb := hb.trans (hx.mono hb.size)
        clear hx
        go_wp2_with (at_builtin; go_must (refine wpList_append_own _ rfl (.tmp 18) (.tmp 20) 24 rfl w.heap.size 9 i0 _ 1 16 Try.underlying24 hi0 hi1 hi2 hi3 rfl (by decide) _ xs.length (xs.flatMap Tx.enc) (by rfl) HO.out ⟨w2.heap.size, 0, none⟩ 1 1 (Tx.enc x) (by rfl) rfl KN.out (tx_one x) ?c1 ?c2 ?c3 ?_))
        case c1 => unfold maxLen; omega
        case c2 => omega
        (try case c3 => (first | omega | (simp only [World.size_alloc]; omega)))
        intro v' w7 hown hgr hnil
        obtain ⟨g7, cap7, rfl, _⟩ := own_some hown (fun e => by have h := hnil; rw [e] at h; simp at h)
        have hb7 := hb.grown hgr hb.size (fun q e => (HO.out.lt q e).1)
        have HL7 : Hid ((xs ++ [x]).length = xs.length + 1) := Lib.hid (by simp)
        have HR7 := Lib.hid (own_as hown (flat_snoc Tx.enc xs _))
        clear hown hgr hnil KN HO hb
        go_wp2
        go_roundw
        case rel => exact ⟨k + 1, g7, cap7, by omega, by go_num, by rw [HN.out, HL7.out], by rw [HN.out, HL7.out]; exact HR7, hb7⟩
        case measure => simp [intOf]; omega
    · obtain rfl : k = ws.length := by omega
      have HE : Hid ((ws.filter fp) = (ws.take ws.length).filter fp) := Lib.hid (by rw [List.take_length])
      go_wp2
      go_ret
      exact ⟨g, cap, by rw [HE.out]; rfl, by rw [HE.out]; exact HO.out, hb⟩
end Go.Proofs.Ytjknpmdmchlfcaa
