/- Contracts: the reference's slots of a grid. For grids of at most 5 rows and columns. -/
import Derived.Test.YtjknpmdmchlfcaaGrE
namespace Go.Proofs.Ytjknpmdmchlfcaa
open Go.ChangeShapes Go.WideShapes Go.ChangeAt Go.RowKit Go.Sort

theorem atL_row {R C r k : Nat} {L : List UInt8} (hL : L.length = R * C) (hr : r < R) (hk : k < (rowL C L r).length) : atL C L r k = (rowL C L r)[k] := by
  have h1 := rowL_len hL hr
  have h2 : r * C + k < L.length := by rw [hL]; exact row_lt hr (by omega)
  unfold atL
  rw [if_pos (by omega), rowL_get hk h2, List.getD_eq_getElem?_getD, List.getElem?_eq_getElem h2]
  rfl
theorem atL_end {R C r k : Nat} {L : List UInt8} (hL : L.length = R * C) (hr : r < R) (hk : ¬ k < (rowL C L r).length) : atL C L r k = 35 := by
  have h1 := rowL_len hL hr
  exact if_neg (by omega)
theorem runs_at {R C r c n : Nat} {L : List UInt8} (hL : L.length = R * C) (hr : r < R) (h : atL C L r (c + n) ≠ 35) : c + n < C ∧ runs ((rowL C L r).drop (c + n)) c n = runs ((rowL C L r).drop (c + (n + 1))) c (n + 1) := by
  have h1 := rowL_len hL hr
  by_cases hk : c + n < (rowL C L r).length
  · rw [atL_row hL hr hk] at h
    exact ⟨by omega, runs_go hk h c n⟩
  · exact absurd (atL_end hL hr hk) h
theorem runs_out {R C r c n : Nat} {L : List UInt8} (hL : L.length = R * C) (hr : r < R) (h : atL C L r (c + n) = 35) : runs ((rowL C L r).drop (c + n)) c n = (if 2 ≤ n then [(c, n)] else []) ++ runs ((rowL C L r).drop (c + (n + 1))) (c + (n + 1)) 0 :=
  runs_flush fun hk => by rw [← atL_row hL hr hk]; exact h
theorem news4 {w : World} {g : Nat} {x y z t : Value} (h0 : w.cell? ⟨g, 0, none⟩ = some x) (h1 : w.cell? ⟨g, 1, none⟩ = some y) (h2 : w.cell? ⟨g, 2, none⟩ = some z) (h3 : w.cell? ⟨g, 3, none⟩ = some t) : ∀ j u, [x, y, z, t][j]? = some u → w.cell? ((⟨g, 0, none⟩ : Addr).add j) = some u := by
  intro j u hu
  rw [Go.Addr.add_lit, Nat.zero_add]
  match j, hu with
  | 0, hu => rw [h0]; exact hu
  | 1, hu => rw [h1]; exact hu
  | 2, hu => rw [h2]; exact hu
  | 3, hu => rw [h3]; exact hu
  | (j + 4), hu => simp at hu
set_option maxRecDepth 100000 in
set_option maxHeartbeats 8000000 in
theorem l25Across_any (R C : Nat) (gs : ByteArray) (b o : Nat) (w : World) (hg : GAt w b o R C gs) (hR : R ≤ 5) (hC : C ≤ 5) (hz : gs.size = R * C) :
    Calls Try.prog 56 #[.pointer (some ⟨b, o, none⟩)] w (SlotsPost w (across R C gs.data.toList)) := by
  obtain ⟨i0, hi0, hi1, hi2, hi3⟩ := info_parts infoSlt
  have hbw := hg.lt
  have hx0 : Below w.heap.size w (w.alloc (.cells #[] 114)) := (Below.refl _ _).alloc (Nat.le_refl _) _
  have HO : Hid ((w.alloc (.cells #[] 114)).ownsRow w.heap.size 114 4 (.slice (some ⟨w.heap.size, 0, none⟩) 0 0) 0 []) := Lib.hid (World.ownsRow_made (base := w.heap.size) (e := 114) (size := 4) w #[] 0 (Nat.le_refl _) (by unfold maxLen; omega) rfl)
  have HG := Lib.hid (hg.kept hx0)
  have hb := hx0
  have hL : gs.data.toList.length = R * C := by rw [← hz]; simp
  have HL := Lib.hid hL
  have HAT : Hid (∀ (r c n : Nat) W, r < R → c ≤ 20 → n ≤ 20 → GAt W b o R C gs → Calls Try.prog 101 #[.pointer (some ⟨b, o, none⟩), .int .i64 r, .int .i64 ((c : Int) + (n : Int))] W fun e w' => e = .returned (.int .u8 ((atL C gs.data.toList r (c + n)).toNat : Int)) ∧ Drew W w') := Lib.hid (fun r c n W h1 h2 h4 h3 => by
    have := l25At_any R C r (c + n) gs b o W h3 h1 hR hC (by omega) hz
    push_cast at this
    exact this)
  have HLEN : Hid (∀ r, r ≤ R → (across r C gs.data.toList).length ≤ 30) := Lib.hid (fun r h => by
    have h1 := across_len r C gs.data.toList
    have h2 : r * (C + 1) ≤ 5 * 6 := Nat.mul_le_mul (by omega) (by omega)
    omega)
  clear hx0 hg hz hL
  go_enter Try.func56, Try.ntmps56
  go_wp2_with fail
  go_loopw [3, 4] (fun ov iv wr => ∃ (r g cap : Nat), r ≤ R ∧ iv = .int .i64 r ∧ ov = .slice (some ⟨g, 0, none⟩) (across r C gs.data.toList).length cap ∧ Hid (wr.ownsRow w.heap.size 114 4 (.slice (some ⟨g, 0, none⟩) (across r C gs.data.toList).length cap) (across r C gs.data.toList).length ((across r C gs.data.toList).flatMap Slt.enc)) ∧ Hid (GAt wr b o R C gs) ∧ Below w.heap.size w wr) (fun _ iv _ => R - (intOf iv).toNat)
  case atStart => exact ⟨0, _, 0, Nat.zero_le _, rfl, rfl, HO, HG, hb⟩
  case round =>
    clear HO HG hb
    obtain ⟨r, g, cap, hr, rfl, rfl, HO, HG, hb⟩ := hrel
    obtain ⟨g0, g1, g2⟩ := HG.out
    by_cases hlt : r < R
    · have HRA := Lib.hid (fun c n (h : atL C gs.data.toList r (c + n) ≠ 35) => runs_at HL.out hlt h)
      have HRO := Lib.hid (fun c n (h : atL C gs.data.toList r (c + n) = 35) => runs_out HL.out hlt h)
      have HSU : Hid (across r C gs.data.toList ++ (runs ((rowL C gs.data.toList r).drop 0) 0 0).map (mkS r) = across (r + 1) C gs.data.toList) := Lib.hid (by rw [across_succ]; rfl)
      have HEN : Hid (∀ c, C ≤ c → runs ((rowL C gs.data.toList r).drop c) c 0 = []) := Lib.hid (fun c hc => by
        rw [runs_end (by rw [rowL_len HL.out hlt]; exact hc)]; rfl)
      have HA2 := Lib.hid (fun c n W h1 h2 h3 => HAT.out r c n W hlt h1 h2 h3)
      have HLN := Lib.hid (HLEN.out (r + 1) (by omega))
      generalize rowL C gs.data.toList r = row at *
      generalize across r C gs.data.toList = xs0 at *
      generalize hX : across (r + 1) C gs.data.toList = X at *
      have HX := Lib.hid hX
      clear hX
      go_wp2_with fail
      obtain ⟨wo, rfl⟩ : ∃ wo : World, wo = wr := ⟨_, rfl⟩
      clear g0 g1 g2
      go_loopw [3, 5] (fun ov iv wr => ∃ (c g cap : Nat) (xs : List Slt), c ≤ C + 1 ∧ iv = .int .i64 c ∧ ov = .slice (some ⟨g, 0, none⟩) xs.length cap ∧ Hid (xs ++ (runs (row.drop c) c 0).map (mkS r) = X) ∧ Hid (wr.ownsRow w.heap.size 114 4 (.slice (some ⟨g, 0, none⟩) xs.length cap) xs.length (xs.flatMap Slt.enc)) ∧ Hid (GAt wr b o R C gs) ∧ Below w.heap.size w wr) (fun _ iv _ => C + 1 - (intOf iv).toNat)
      case atStart => exact ⟨0, g, cap, xs0, by omega, rfl, rfl, HSU, HO, HG, hb⟩
      case round =>
        clear HO HG hb HSU
        obtain ⟨c, g3, cap3, xs, hc, rfl, rfl, HXS, HO, HG, hb⟩ := hrel
        obtain ⟨g0, g1, g2⟩ := HG.out
        by_cases hcl : c < C
        · go_wp2_with fail
          obtain ⟨wo2, rfl⟩ : ∃ wo2 : World, wo2 = wr := ⟨_, rfl⟩
          clear g0 g1 g2
          go_loopw [6] (fun nv wr => ∃ (n : Nat), c + n ≤ C ∧ nv = .int .i64 n ∧ Hid (runs (row.drop c) c 0 = runs (row.drop (c + n)) c n) ∧ Hid (wr.ownsRow w.heap.size 114 4 (.slice (some ⟨g3, 0, none⟩) xs.length cap3) xs.length (xs.flatMap Slt.enc)) ∧ Hid (GAt wr b o R C gs) ∧ Below w.heap.size w wr) (fun nv _ => C - (intOf nv).toNat)
          case atStart => exact ⟨0, by omega, rfl, Lib.hid rfl, HO, HG, hb⟩
          case round =>
            clear HO HG hb
            obtain ⟨n, hn, rfl, HRN, HO, HG, hb⟩ := hrel
            have HA := Lib.hid (HA2.out c n wr (by omega) (by omega) HG.out)
            have HR1 := Lib.hid (HRA.out c n)
            have HR2 := Lib.hid (HRO.out c n)
            generalize atL C gs.data.toList r (c + n) = y at *
            go_wp2_with fail
            refine HA.out.mono ?_
            rintro e w2 ⟨rfl, hdr⟩
            have hd := hdr.bel
            replace HO := Lib.hid (own_below HO.out hd)
            replace HG := Lib.hid (HG.out.kept hd)
            replace hb := hb.trans (hd.mono hb.size)
            clear hd hdr HA
            by_cases hy : y = 35
            · have q1 : ((y.toNat : Int) != 35) = false := by rw [hy]; rfl
              have q2 : ((y.toNat : Int) == 35) = true := by rw [hy]; rfl
              have HR3 := Lib.hid (HR2.out hy)
              clear HR1 HR2 hy
              by_cases h2 : 2 ≤ n
              · have HN : Hid ((xs ++ [(⟨r, c, false, n⟩ : Slt)]) ++ (runs (row.drop (c + (n + 1))) (c + (n + 1)) 0).map (mkS r) = X) := Lib.hid (by
                  rw [← HXS.out, HRN.out, HR3.out, if_pos h2]
                  simp [mkS])
                have hxl : xs.length ≤ 30 := by have h := HLN.out; rw [← HXS.out, List.length_append] at h; omega
                clear HXS HRN HR3
                have hx : Below w2.heap.size w2 (w2.alloc (.cells #[.int .i64 (r : Int), .int .i64 (c : Int), .bool false, .int .i64 (n : Int)] 114)) := (Below.refl _ _).alloc (Nat.le_refl _) _
                have KN := Lib.hid (new_slt w2 ⟨r, c, false, n⟩ 114)
                replace HO := Lib.hid (own_below HO.out hx)
                replace HG := Lib.hid (HG.out.kept hx)
                have hsz := hb.size
                replace hb := hb.trans (hx.mono hb.size)
                clear hx
                go_wp2_with (at_builtin; go_must (refine wpList_append_own _ rfl (.tmp 33) (.tmp 38) 84 rfl w.heap.size 114 i0 _ 4 32 Try.underlying84 hi0 hi1 hi2 hi3 rfl (by decide) _ xs.length (xs.flatMap Slt.enc) (by rfl) HO.out ⟨w2.heap.size, 0, none⟩ 1 1 (Slt.enc ⟨r, c, false, n⟩) (by rfl) rfl KN.out (slt_one ⟨r, c, false, n⟩) ?c1 ?c2 ?c3 ?_))
                case c1 => unfold maxLen; omega
                case c2 => omega
                case c3 => (first | omega | (simp only [World.size_alloc]; omega))
                intro v' w7 hown hgr hnil
                obtain ⟨g7, cap7, rfl, _⟩ := own_some hown (fun e => by have h := hnil; rw [e] at h; simp at h)
                have hb7 := hb.grown hgr hb.size (fun q e => (HO.out.lt q e).1)
                have HL7 : Hid ((xs ++ [(⟨r, c, false, n⟩ : Slt)]).length = xs.length + 1) := Lib.hid (by simp)
                have HO7 := Lib.hid (own_as hown (flat_snoc Slt.enc xs _))
                have HG7 := Lib.hid (HG.out.grown hgr (own_ne HO.out hbw))
                clear hown hgr hnil KN HO hb HG
                go_wp2
                go_roundw
                case rel => exact ⟨c + (n + 1), g7, cap7, xs ++ [⟨r, c, false, n⟩], by omega, by go_num, by rw [HL7.out], HN, by rw [HL7.out]; exact HO7, HG7, hb7⟩
                case measure => simp [intOf]; omega
              · have HN : Hid (xs ++ (runs (row.drop (c + (n + 1))) (c + (n + 1)) 0).map (mkS r) = X) := Lib.hid (by
                  rw [← HXS.out, HRN.out, HR3.out, if_neg h2]
                  rfl)
                clear HXS HRN HR3
                go_wp2
                go_roundw
                case rel => exact ⟨c + (n + 1), g3, cap3, xs, by omega, by go_num, rfl, HN, HO, HG, hb⟩
                case measure => simp [intOf]; omega
            · have q1 : ((y.toNat : Int) == 35) = false := beq_eq_false_iff_ne.2 (fun e => hy (UInt8.toNat_inj.1 (by have h35 : (35 : UInt8).toNat = 35 := rfl; omega)))
              have q2 : ((y.toNat : Int) != 35) = true := by rw [bne, q1]; rfl
              obtain ⟨h1, h2⟩ := HR1.out hy
              have HN : Hid (runs (row.drop c) c 0 = runs (row.drop (c + (n + 1))) c (n + 1)) := Lib.hid (HRN.out.trans h2)
              clear HR1 HR2 HRN h2 hy
              go_wp2
              go_roundw
              case rel => exact ⟨n + 1, by omega, by go_num, HN, HO, HG, hb⟩
              case measure => simp [intOf]; omega
        · have HN : Hid (xs = X) := Lib.hid (by have h := HXS.out; rw [HEN.out c (by omega)] at h; simpa using h)
          have HE : Hid (across (r + 1) C gs.data.toList = xs) := Lib.hid (by rw [HX.out, HN.out])
          go_wp2
          go_roundw
          case rel => exact ⟨r + 1, g3, cap3, by omega, by go_num, by rw [HE.out], by rw [HE.out]; exact HO, HG, hb⟩
          case measure => simp [intOf]; omega
    · obtain rfl : r = R := by omega
      go_wp2
      go_ret
      exact ⟨g, cap, rfl, HO.out, hb⟩
def Slt.swap (s : Slt) : Slt := ⟨s.col, s.row, true, s.len⟩
theorem slots_eq (R C : Nat) (L : List UInt8) : slots R C L = across R C L ++ (across C R (turnL R C L)).map Slt.swap := rfl
theorem map_take {xs : List Slt} {k : Nat} (h : k < xs.length) : (xs.take (k + 1)).map Slt.swap = (xs.take k).map Slt.swap ++ [xs[k].swap] := by
  rw [List.take_succ_eq_append_getElem h, List.map_append]
  rfl
set_option maxRecDepth 100000 in
set_option maxHeartbeats 8000000 in
theorem l25Slots_any (R C : Nat) (gs : ByteArray) (b o : Nat) (w : World) (hg : GAt w b o R C gs) (hR : R ≤ 5) (hC : C ≤ 5) (hz : gs.size = R * C) :
    Calls Try.prog 30 #[.pointer (some ⟨b, o, none⟩)] w (SlotsPost w (slots R C gs.data.toList)) := by
  obtain ⟨i0, hi0, hi1, hi2, hi3⟩ := info_parts infoSlt
  have HA := Lib.hid (l25Across_any R C gs b o w hg hR hC hz)
  have HTU : Hid (∀ W, GAt W b o R C gs → Calls Try.prog 57 #[.pointer (some ⟨b, o, none⟩)] W fun e w' => e = .returned (.agg #[.int .i64 C, .int .i64 R, .string (mkB (turnL R C gs.data.toList))]) ∧ Below W.heap.size W w') := Lib.hid (fun W h => l25Turn_any R C gs b o W h hR hC hz)
  have HD : Hid (∀ b2 W, GAt W b2 0 C R (mkB (turnL R C gs.data.toList)) → Calls Try.prog 56 #[.pointer (some ⟨b2, 0, none⟩)] W (SlotsPost W (across C R (turnL R C gs.data.toList)))) := Lib.hid (fun b2 W h => by
    have := l25Across_any C R (mkB (turnL R C gs.data.toList)) b2 0 W h hC hR (by rw [mkB_size, turnL_len])
    rwa [mkB_data] at this)
  have HSL := Lib.hid (slots_eq R C gs.data.toList)
  have hl1 : (across R C gs.data.toList).length ≤ 30 := by
    have h1 := across_len R C gs.data.toList
    have h2 : R * (C + 1) ≤ 5 * 6 := Nat.mul_le_mul (by omega) (by omega)
    omega
  have hl2 : (across C R (turnL R C gs.data.toList)).length ≤ 30 := by
    have h1 := across_len C R (turnL R C gs.data.toList)
    have h2 : C * (R + 1) ≤ 5 * 6 := Nat.mul_le_mul (by omega) (by omega)
    omega
  have HG0 := Lib.hid hg
  clear hg hz
  generalize mkB (turnL R C gs.data.toList) = ts at *
  generalize across C R (turnL R C gs.data.toList) = ds at *
  generalize across R C gs.data.toList = xs at *
  go_enter Try.func30, Try.ntmps30
  go_wp2_with fail
  refine HA.out.mono ?_
  rintro e w1 ⟨g, cap, rfl, ho, hb⟩
  have HO := Lib.hid ho
  have hg1 := (ho.lt g rfl).2
  clear ho HA
  go_wp2_with fail
  refine (HTU.out _ (HG0.out.kept hb)).mono ?_
  rintro e w2 ⟨rfl, hd⟩
  replace HO := Lib.hid (own_below HO.out hd)
  replace hb := hb.trans (hd.mono hb.size)
  have hg2 := Nat.lt_of_lt_of_le hg1 hd.size
  clear hd HTU hg1
  have hx : Below w2.heap.size w2 (w2.alloc (.cells #[.int .i64 C, .int .i64 R, .string ts] 31)) := (Below.refl _ _).alloc (Nat.le_refl _) _
  have HT := Lib.hid (GAt.new w2 C R ts 31)
  replace HO := Lib.hid (own_below HO.out hx)
  replace hb := hb.trans (hx.mono hb.size)
  have hg3 := Nat.lt_of_lt_of_le hg2 hx.size
  clear hx
  go_wp2_with fail
  refine (HD.out _ _ HT.out).mono ?_
  rintro e w3 ⟨gd, capd, rfl, hod, hd⟩
  replace HO := Lib.hid (own_below HO.out hd)
  have hgd := (hod.lt gd rfl)
  have HNE : Hid (some gd ≠ (Value.slice (some ⟨g, 0, none⟩) xs.length cap).ownBlock) := Lib.hid (by simp [Value.ownBlock]; omega)
  have HDO := Lib.hid (own_mono hod (show w.heap.size ≤ _ from hb.size))
  replace hb := hb.trans (hd.mono hb.size)
  clear hd hod hgd HD HT hg2 hg3
  go_wp2_with fail
  go_loopw [3, 6] (fun ov iv wr => ∃ (k g cap : Nat), k ≤ ds.length ∧ iv = .int .i64 k ∧ ov = .slice (some ⟨g, 0, none⟩) (xs ++ (ds.take k).map Slt.swap).length cap ∧ Hid (wr.ownsRow w.heap.size 114 4 (.slice (some ⟨g, 0, none⟩) (xs ++ (ds.take k).map Slt.swap).length cap) (xs ++ (ds.take k).map Slt.swap).length ((xs ++ (ds.take k).map Slt.swap).flatMap Slt.enc)) ∧ Hid (wr.ownsRow w.heap.size 114 4 (.slice (some ⟨gd, 0, none⟩) ds.length capd) ds.length (ds.flatMap Slt.enc)) ∧ Hid (some gd ≠ (Value.slice (some ⟨g, 0, none⟩) (xs ++ (ds.take k).map Slt.swap).length cap).ownBlock) ∧ Below w.heap.size w wr) (fun _ iv _ => ds.length - (intOf iv).toNat)
  case atStart => exact ⟨0, g, cap, Nat.zero_le _, rfl, by simp, by simpa using HO, HDO, by simpa using HNE, hb⟩
  case round =>
    clear HO HDO HNE hb
    obtain ⟨k, g, cap, hk, rfl, rfl, HO, HDO, HNE, hb⟩ := hrel
    by_cases hlt : k < ds.length
    · have hl3 : (xs ++ (ds.take k).map Slt.swap).length ≤ 60 := by simp; omega
      have HMT : Hid (xs ++ (ds.take (k + 1)).map Slt.swap = (xs ++ (ds.take k).map Slt.swap) ++ [ds[k].swap]) := Lib.hid (by rw [map_take hlt, List.append_assoc])
      have c0 := own_cells Slt.enc_len HDO.out rfl hlt (j := 0) (v := .int .i64 (ds[k].row : Int)) rfl
      have c1 := own_cells Slt.enc_len HDO.out rfl hlt (j := 1) (v := .int .i64 (ds[k].col : Int)) rfl
      have c3 := own_cells Slt.enc_len HDO.out rfl hlt (j := 3) (v := .int .i64 (ds[k].len : Int)) rfl
      rw [Nat.add_zero] at c0
      generalize ds[k] = d at *
      generalize xs ++ (ds.take k).map Slt.swap = ys at *
      go_upto_region 7 with fail
      have hk2 : Below wr.heap.size wr wr.drew := (Below.refl _ _).drew
      have k_0 : wr.drew.cell? ⟨gd, k * 4, none⟩ = some (.int .i64 (d.row : Int)) := c0
      have k_1 : wr.drew.cell? ⟨gd, k * 4 + 1, none⟩ = some (.int .i64 (d.col : Int)) := c1
      have k_3 : wr.drew.cell? ⟨gd, k * 4 + 3, none⟩ = some (.int .i64 (d.len : Int)) := c3
      go_region_held3 (fun w' => w'.cell? ⟨gd, k * 4, none⟩ = some (.int .i64 (d.row : Int)) ∧ w'.cell? ⟨gd, k * 4 + 1, none⟩ = some (.int .i64 (d.col : Int)) ∧ w'.cell? ⟨gd, k * 4 + 3, none⟩ = some (.int .i64 (d.len : Int)))
        (first | exact ⟨k_0, k_1, k_3⟩ | exact ⟨cell_alloc k_0 _, cell_alloc k_1 _, cell_alloc k_3 _⟩)
        (((first | refine step_new_drew ?_ | refine step_new ?_); intro wz hxz hnz hoz; have nb0 := hnz.1 0 _ rfl; have nb1 := hnz.1 1 _ rfl; have nb2 := hnz.1 2 _ rfl; have nb3 := hnz.1 3 _ rfl; replace k_0 := cell_kept k_0 hxz; replace k_1 := cell_kept k_1 hxz; replace k_3 := cell_kept k_3 hxz; replace hk2 := hk2.trans (hxz.mono hk2.size); have HO2 := Lib.hid (own_below HO.out hk2); have hzz := Nat.le_trans hb.size hk2.size; clear hxz hnz hoz; refine step_append_lies _ ?_ (.tmp 18) (.tmp 35) 84 ?_ w.heap.size 114 i0 (.agg #[.int .i64 0, .int .i64 0, .bool false, .int .i64 0]) 4 32 Try.underlying84 hi0 hi1 hi2 hi3 rfl (by decide) (.slice (some ⟨g, 0, none⟩) ys.length cap) ys.length (ys.flatMap Slt.enc) ?_ HO2.out ⟨_, 0, none⟩ 1 1 (Slt.enc d.swap) ?_ rfl (news4 nb0 nb1 nb2 nb3) (slt_one d.swap) (by decide) ?_ ?_ hzz _ rfl ?_; (all_goals (first | rfl | (unfold maxLen; omega) | omega | skip)); intro g5 cap5 w5 ho5 hg5 hat5 hlt5; replace k_0 := hg5.cell k_0 HNE.out; replace k_1 := hg5.cell k_1 HNE.out; replace k_3 := hg5.cell k_3 HNE.out))
      all_goals
        have hb5 := (hb.trans (hk2.mono hb.size)).grown hg5 hzz (fun q h => (HO2.out.lt q h).1)
        have HL5 : Hid ((ys ++ [d.swap]).length = ys.length + 1) := Lib.hid (by simp)
        have HO5 := Lib.hid (own_as ho5 (flat_snoc Slt.enc ys d.swap))
        have HD5 := Lib.hid ((own_below HDO.out hk2).kept hg5 (.inr HNE.out))
        have HN5 : Hid (some gd ≠ (Value.slice (some ⟨g5, 0, none⟩) (ys.length + 1) cap5).ownBlock) := Lib.hid (ne_behind hat5 HNE.out (block_lt nb0 |> fun h => by have := (HDO.out.lt gd rfl).2; have := hk2.size; omega))
        clear ho5 hg5 hat5 hlt5 nb0 nb1 nb2 nb3 k_0 k_1 k_3 hk2 HO2 hzz HO HDO HNE hb
        go_wp2
        go_roundw
        case rel => exact ⟨k + 1, g5, cap5, by omega, by go_num, by rw [HMT.out, HL5.out], by rw [HMT.out, HL5.out]; exact HO5, HD5, by rw [HMT.out, HL5.out]; exact HN5, hb5⟩
        case measure => simp [intOf]; omega
    · obtain rfl : k = ds.length := by omega
      have HE : Hid (slots R C gs.data.toList = xs ++ (ds.take ds.length).map Slt.swap) := Lib.hid (by rw [HSL.out, List.take_length])
      go_wp2
      go_ret
      exact ⟨g, cap, by rw [HE.out]; rfl, by rw [HE.out]; exact HO.out, hb⟩
end Go.Proofs.Ytjknpmdmchlfcaa
