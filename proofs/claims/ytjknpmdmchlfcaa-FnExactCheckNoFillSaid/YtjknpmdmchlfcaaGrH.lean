/- Contracts: the program's grid turned, and the slots of its rows. For grids of at most 5 rows and columns. -/
import Derived.Test.YtjknpmdmchlfcaaGrF
namespace Go.Proofs.Ytjknpmdmchlfcaa
open Go.ChangeShapes Go.WideShapes Go.ChangeAt Go.RowKit Go.Sort

set_option maxRecDepth 100000 in
set_option maxHeartbeats 4000000 in
theorem turned_any (R C : Nat) (gs : ByteArray) (w : World) (hR : R ≤ 5) (hC : C ≤ 5) (hz : gs.size = R * C) :
    Calls Try.prog 66 #[.agg #[.int .i64 R, .int .i64 C, .string gs]] w fun e w' => e = .returned (.agg #[.int .i64 C, .int .i64 R, .string (mkB (turnL R C gs.data.toList))]) ∧ Below w.heap.size w w' := by
  obtain ⟨i0, hi0, hi1, hi2, hi3⟩ := info_parts infoByte
  obtain ⟨w3, hw3⟩ : ∃ w3, w3 = ((w.alloc (.cells #[.int .i64 R, .int .i64 C, .string gs] 31)).alloc (.cells #[.int .i64 0, .int .i64 0, .string ⟨#[]⟩] 31)).alloc (.cells #[] 5) := ⟨_, rfl⟩
  have hb : Below w.heap.size w w3 := by rw [hw3]; exact (((Below.refl _ _).alloc (Nat.le_refl _) _).alloc (by simp) _).alloc (by simp; omega) _
  have HG : Hid (GAt w3 w.heap.size 0 R C gs) := by
    rw [hw3]
    exact Lib.hid (((GAt.new w R C gs 31).kept ((Below.refl _ _).alloc (Nat.le_refl _) _)).kept ((Below.refl _ _).alloc (Nat.le_refl _) _))
  have V0 : Hid (VarAt w3 (w.heap.size + 1) 31 [.int .i64 0, .int .i64 0, .string ⟨#[]⟩]) := by
    rw [hw3]
    have := (VarAt.new (w.alloc (.cells #[.int .i64 R, .int .i64 C, .string gs] 31)) 31 [.int .i64 0, .int .i64 0, .string ⟨#[]⟩]).kept ((Below.refl _ _).alloc (Nat.le_refl _) (.cells #[] 5))
    simp only [World.size_alloc] at this
    exact Lib.hid this
  have HO : Hid (w3.ownsRow (w.heap.size + 1 + 1) 5 1 (.slice (some ⟨w.heap.size + 1 + 1, 0, none⟩) 0 0) 0 []) := by
    rw [hw3]
    have := World.ownsRow_made (base := w.heap.size + 1 + 1) (e := 5) (size := 1) ((w.alloc (.cells #[.int .i64 R, .int .i64 C, .string gs] 31)).alloc (.cells #[.int .i64 0, .int .i64 0, .string ⟨#[]⟩] 31)) #[] 0 (by simp) (by unfold maxLen; omega) rfl
    simp only [World.size_alloc] at this
    exact Lib.hid this
  have HZ := Lib.hid hz
  have HLN := Lib.hid (turnL_len R C gs.data.toList)
  have HTK := Lib.hid (fun (c r n : Nat) (h1 : c < C) (h2 : r < R) (h3 : n = c * R + r) => turnL_take (L := gs.data.toList) h1 h2 h3)
  have HW3 := Lib.hid hw3
  clear hz hw3
  go_enter Try.func66, Try.ntmps66
  go_wp2_with fail
  rw [← HW3.out]
  clear HW3
  go_loopw [3, 4] (fun ov iv wr => ∃ (c n g cap : Nat), c ≤ C ∧ iv = .int .i64 c ∧ ov = .slice (some ⟨g, 0, none⟩) n cap ∧ Hid (n = c * R) ∧ n ≤ 25 ∧ Hid (wr.ownsRow (w.heap.size + 1 + 1) 5 1 (.slice (some ⟨g, 0, none⟩) n cap) n (((turnL R C gs.data.toList).take n).flatMap U8.enc)) ∧ Hid (VarAt wr (w.heap.size + 1) 31 [.int .i64 0, .int .i64 0, .string ⟨#[]⟩]) ∧ Hid (GAt wr w.heap.size 0 R C gs) ∧ Below w.heap.size w wr) (fun _ iv _ => C - (intOf iv).toNat)
  case atStart => exact ⟨0, 0, _, 0, Nat.zero_le _, rfl, rfl, Lib.hid (by simp), by omega, HO, V0, HG, hb⟩
  case round =>
    clear HO V0 HG hb
    obtain ⟨c, n, g, cap, hc, rfl, rfl, HN, hn, HO, V0, HG, hb⟩ := hrel
    obtain ⟨g0, g1, g2⟩ := HG.out
    by_cases hlt : c < C
    · go_wp2_with fail
      obtain ⟨wo, rfl⟩ : ∃ wo : World, wo = wr := ⟨_, rfl⟩
      clear g0 g1 g2
      go_loopw [3, 5] (fun ov iv wr => ∃ (r m g cap : Nat), r ≤ R ∧ iv = .int .i64 r ∧ ov = .slice (some ⟨g, 0, none⟩) m cap ∧ Hid (m = c * R + r) ∧ m ≤ 25 ∧ Hid (wr.ownsRow (w.heap.size + 1 + 1) 5 1 (.slice (some ⟨g, 0, none⟩) m cap) m (((turnL R C gs.data.toList).take m).flatMap U8.enc)) ∧ Hid (VarAt wr (w.heap.size + 1) 31 [.int .i64 0, .int .i64 0, .string ⟨#[]⟩]) ∧ Hid (GAt wr w.heap.size 0 R C gs) ∧ Below w.heap.size w wr) (fun _ iv _ => R - (intOf iv).toNat)
      case atStart => exact ⟨0, n, g, cap, Nat.zero_le _, rfl, rfl, Lib.hid (by rw [HN.out]; rfl), hn, HO, V0, HG, hb⟩
      case round =>
        clear HO V0 HG hb hn HN
        obtain ⟨r, m, g2, cap2, hr, rfl, rfl, HM, hm, HO, V0, HG, hb⟩ := hrel
        obtain ⟨g0, g1, g3⟩ := HG.out
        by_cases hr2 : r < R
        · have HT := Lib.hid (HTK.out c r m hlt hr2 HM.out)
          have hlt2 := row_lt hr2 hlt
          have hsm := small_mul hR hC
          have hm2 : m < 25 := by
            have h1 := HM.out
            have h2 := row_lt hlt hr2
            have h3 := small_mul hC hR
            omega
          have HM2 : Hid (m + 1 = c * R + (r + 1)) := Lib.hid (by have := HM.out; omega)
          obtain ⟨q, hq⟩ : ∃ q, q = r * C := ⟨_, rfl⟩
          have hqi : (r : Int) * (C : Int) = (q : Int) := by rw [hq]; push_cast; rfl
          have hqs : q + c < gs.size := by have := HZ.out; omega
          have HY : Hid (gs.data.toList.getD (r * C + c) 0 = gs[q + c]) := Lib.hid (by rw [← hq]; exact getD_byte hqs)
          rw [HY.out] at HT
          have hq3 : q ≤ 25 := by omega
          clear HM HY hlt2 hq hsm
          have hx : Below wr.heap.size wr (wr.alloc (.cells #[.int .u8 (gs[q + c].toNat : Int)] 5)) := (Below.refl _ _).alloc (Nat.le_refl _) _
          have KN := Lib.hid (new_byte wr gs[q + c] 5)
          have hz2 := Nat.succ_le_of_lt V0.out.lt
          replace HO := Lib.hid (own_below HO.out hx)
          replace V0 := Lib.hid (V0.out.kept hx)
          replace HG := Lib.hid (HG.out.kept hx)
          replace hb := hb.trans (hx.mono hb.size)
          clear hx
          go_wp2_with (at_builtin; go_must (refine wpList_append_own _ rfl (.tmp 19) (.tmp 29) 39 rfl (w.heap.size + 1 + 1) 5 i0 _ 1 1 Try.underlying39 hi0 hi1 hi2 hi3 rfl (by decide) _ m (((turnL R C gs.data.toList).take m).flatMap U8.enc) (by rfl) HO.out ⟨wr.heap.size, 0, none⟩ 1 1 (U8.enc gs[q + c]) (by rfl) rfl KN.out (u8_one1 gs[q + c]) ?c1 ?c2 ?c3 ?_))
          case c1 => unfold maxLen; omega
          case c2 => omega
          case c3 => (first | omega | (simp only [World.size_alloc]; omega))
          intro v' w7 hown hgr hnil
          obtain ⟨g7, cap7, rfl, _⟩ := own_some hown (fun e => by have h := hnil; rw [e] at h; simp at h)
          have hb7 := hb.grown hgr hb.size (fun q e => by have := (HO.out.lt q e).1; omega)
          have HO7 : Hid (w7.ownsRow (w.heap.size + 1 + 1) 5 1 (.slice (some ⟨g7, 0, none⟩) (m + 1) cap7) (m + 1) (((turnL R C gs.data.toList).take (m + 1)).flatMap U8.enc)) := Lib.hid (by
            rw [HT.out, ← flat_snoc U8.enc]; exact hown)
          have V7 := Lib.hid (V0.out.grown hgr (own_ne HO.out (by omega)))
          have HG7 := Lib.hid (HG.out.grown hgr (own_ne HO.out (by omega)))
          clear hown hgr hnil KN HO hb V0 HG HT
          go_wp2
          go_roundw
          case rel => exact ⟨r + 1, m + 1, g7, cap7, by omega, by go_num, by go_num, HM2, by omega, HO7, V7, HG7, hb7⟩
          case measure => simp [intOf]; omega
        · obtain rfl : r = R := by omega
          have HM2 : Hid (m = (c + 1) * r) := Lib.hid (by rw [Nat.succ_mul]; exact HM.out)
          clear HM
          go_wp2
          go_roundw
          case rel => exact ⟨c + 1, m, g2, cap2, by omega, by go_num, rfl, HM2, hm, HO, V0, HG, hb⟩
          case measure => simp [intOf]; omega
    · obtain rfl : c = C := by omega
      have HE : Hid ((turnL R c gs.data.toList).take n = turnL R c gs.data.toList) := Lib.hid (List.take_of_length_le (by rw [HLN.out, HN.out]; exact Nat.le_refl _))
      have hO := HO.out
      rw [HE.out] at hO
      have HNL : Hid (n = (turnL R c gs.data.toList).length) := Lib.hid (by rw [HN.out, HLN.out])
      generalize hP : turnL R c gs.data.toList = P at *
      have HP := Lib.hid hP
      clear hP HO HE HTK HLN
      have hcv := own_bytes hO HNL.out
      have q0 := V0.out.cell (i := 0) rfl
      have q1 := V0.out.cell (i := 1) rfl
      have q2 := V0.out.cell (i := 2) rfl
      have p0 := V0.out.free 0
      have p1 := V0.out.free 1
      have p2 := V0.out.free 2
      obtain ⟨o0, k0⟩ := V0.out.set 0 (.int .i64 c)
      obtain ⟨o1, k1⟩ := o0.set 1 (.int .i64 R)
      obtain ⟨o2, k2⟩ := o1.set 2 (.string (mkB P))
      have GG := grownBy_trans (grownBy_trans k0 k1) k2
      have hb9 := hb.grown GG hb.size (fun q h => by cases h; omega)
      have e0 := o2.cell (i := 0) (v := .int .i64 c) rfl
      have e1 := o2.cell (i := 1) (v := .int .i64 R) rfl
      have e2 := o2.cell (i := 2) (v := .string (mkB P)) rfl
      have HO9 := Lib.hid hO
      clear o0 o1 o2 k0 k1 k2 GG hO
      go_wp2
      refine bodyPost_ret (v := .agg #[.int .i64 c, .int .i64 R, .string (mkB P)]) (by simp [results, Try.results66, go_sem, e0, e1, e2]) rfl ?_
      exact ⟨by rw [HP.out], hb9⟩
theorem runs_at2 {R C r st n : Nat} {L : List UInt8} (hL : L.length = R * C) (hr : r < R) (hk : st + n < C) (h : L.getD (r * C + (st + n)) 0 ≠ 35) : runs ((rowL C L r).drop (st + n)) st n = runs ((rowL C L r).drop (st + (n + 1))) st (n + 1) := by
  have h2 : atL C L r (st + n) ≠ 35 := by rw [atL_get hk]; exact h
  exact (runs_at hL hr h2).2
theorem runs_out2 {R C r st n : Nat} {L : List UInt8} (hL : L.length = R * C) (hr : r < R) (h : st + n < C → L.getD (r * C + (st + n)) 0 = 35) : runs ((rowL C L r).drop (st + n)) st n = (if 2 ≤ n then [(st, n)] else []) ++ runs ((rowL C L r).drop (st + n + 1)) (st + n + 1) 0 := by
  refine runs_out hL hr ?_
  by_cases hk : st + n < C
  · rw [atL_get hk]; exact h hk
  · exact atL_out hk
set_option maxRecDepth 100000 in
set_option maxHeartbeats 8000000 in
theorem across_any (R C : Nat) (gs : ByteArray) (w : World) (hR : R ≤ 5) (hC : C ≤ 5) (hz : gs.size = R * C) :
    Calls Try.prog 65 #[.agg #[.int .i64 R, .int .i64 C, .string gs]] w (SlotsPost w (across R C gs.data.toList)) := by
  obtain ⟨i0, hi0, hi1, hi2, hi3⟩ := info_parts infoSlt
  have hx0 : Below w.heap.size w (w.alloc (.cells #[.int .i64 R, .int .i64 C, .string gs] 31)) := (Below.refl _ _).alloc (Nat.le_refl _) _
  have HG0 := GAt.new w R C gs 31
  have hx1 : Below (w.alloc (.cells #[.int .i64 R, .int .i64 C, .string gs] 31)).heap.size (w.alloc (.cells #[.int .i64 R, .int .i64 C, .string gs] 31)) ((w.alloc (.cells #[.int .i64 R, .int .i64 C, .string gs] 31)).alloc (.cells #[] 114)) := (Below.refl _ _).alloc (Nat.le_refl _) _
  have HG := Lib.hid (HG0.kept hx1)
  have hb := hx0.trans (hx1.mono hx0.size)
  have HO : Hid (((w.alloc (.cells #[.int .i64 R, .int .i64 C, .string gs] 31)).alloc (.cells #[] 114)).ownsRow (w.heap.size + 1) 114 4 (.slice (some ⟨w.heap.size + 1, 0, none⟩) 0 0) 0 []) := by
    have := World.ownsRow_made (base := w.heap.size + 1) (e := 114) (size := 4) (w.alloc (.cells #[.int .i64 R, .int .i64 C, .string gs] 31)) #[] 0 (by simp) (by unfold maxLen; omega) rfl
    simp only [World.size_alloc] at this
    exact Lib.hid this
  have hL : gs.data.toList.length = R * C := by rw [← hz]; simp
  have HL := Lib.hid hL
  have HZ := Lib.hid hz
  have HLEN : Hid (∀ r, r ≤ R → (across r C gs.data.toList).length ≤ 30) := Lib.hid (fun r h => by
    have h1 := across_len r C gs.data.toList
    have h2 : r * (C + 1) ≤ 5 * 6 := Nat.mul_le_mul (by omega) (by omega)
    omega)
  clear hx0 hx1 HG0 hz hL
  go_enter Try.func65, Try.ntmps65
  go_wp2_with fail
  go_loopw [3, 4] (fun ov iv wr => ∃ (r g cap : Nat), r ≤ R ∧ iv = .int .i64 r ∧ ov = .slice (some ⟨g, 0, none⟩) (across r C gs.data.toList).length cap ∧ Hid (wr.ownsRow (w.heap.size + 1) 114 4 (.slice (some ⟨g, 0, none⟩) (across r C gs.data.toList).length cap) (across r C gs.data.toList).length ((across r C gs.data.toList).flatMap Slt.enc)) ∧ Hid (GAt wr w.heap.size 0 R C gs) ∧ Below w.heap.size w wr) (fun _ iv _ => R - (intOf iv).toNat)
  case atStart => exact ⟨0, _, 0, Nat.zero_le _, rfl, rfl, HO, HG, hb⟩
  case round =>
    clear HO HG hb
    obtain ⟨r, g, cap, hr, rfl, rfl, HO, HG, hb⟩ := hrel
    obtain ⟨g0, g1, g2⟩ := HG.out
    by_cases hlt : r < R
    · have HRA := Lib.hid (fun st n (hk : st + n < C) (h : gs.data.toList.getD (r * C + (st + n)) 0 ≠ 35) => runs_at2 HL.out hlt hk h)
      have HRO := Lib.hid (fun st n (h : st + n < C → gs.data.toList.getD (r * C + (st + n)) 0 = 35) => runs_out2 HL.out hlt h)
      have HSU : Hid (across r C gs.data.toList ++ (runs ((rowL C gs.data.toList r).drop (0 + 0)) 0 0).map (mkS r) = across (r + 1) C gs.data.toList) := Lib.hid (by rw [across_succ]; rfl)
      have HEN : Hid (∀ c, C ≤ c → runs ((rowL C gs.data.toList r).drop c) c 0 = []) := Lib.hid (fun c hc => by
        rw [runs_end (by rw [rowL_len HL.out hlt]; exact hc)]; rfl)
      have HLN := Lib.hid (HLEN.out (r + 1) (by omega))
      obtain ⟨q, hq⟩ : ∃ q, q = r * C := ⟨_, rfl⟩
      have hqi : (r : Int) * (C : Int) = (q : Int) := by rw [hq]; push_cast; rfl
      have HQS : Hid (∀ k, k < C → q + k < gs.size) := Lib.hid (fun k hk => by rw [hq, HZ.out]; exact row_lt hlt hk)
      have HBY : Hid (∀ k (h : q + k < gs.size), gs.data.toList.getD (r * C + k) 0 = gs[q + k]) := Lib.hid (fun k h => by rw [← hq]; exact getD_byte h)
      have hq3 : q ≤ 25 := by rw [hq]; exact Nat.le_trans (Nat.mul_le_mul_right _ (by omega)) (small_mul hR hC)
      clear hq
      generalize rowL C gs.data.toList r = row at *
      generalize across r C gs.data.toList = xs0 at *
      generalize hX : across (r + 1) C gs.data.toList = X at *
      have HX := Lib.hid hX
      clear hX
      go_wp2_with fail
      obtain ⟨wo, rfl⟩ : ∃ wo : World, wo = wr := ⟨_, rfl⟩
      clear g0 g1 g2
      go_loopw [3, 5, 6] (fun ov sv iv wr => ∃ (st n g cap : Nat) (xs : List Slt), st + n ≤ C + 1 ∧ (st + n = C + 1 → n = 0) ∧ sv = .int .i64 st ∧ iv = .int .i64 ((st : Int) + (n : Int)) ∧ ov = .slice (some ⟨g, 0, none⟩) xs.length cap ∧ Hid (xs ++ (runs (row.drop (st + n)) st n).map (mkS r) = X) ∧ Hid (wr.ownsRow (w.heap.size + 1) 114 4 (.slice (some ⟨g, 0, none⟩) xs.length cap) xs.length (xs.flatMap Slt.enc)) ∧ Hid (GAt wr w.heap.size 0 R C gs) ∧ Below w.heap.size w wr) (fun _ _ iv _ => C + 1 - (intOf iv).toNat)
      case atStart => exact ⟨0, 0, g, cap, xs0, by omega, fun _ => rfl, rfl, rfl, rfl, HSU, HO, HG, hb⟩
      case round =>
        clear HO HG hb HSU
        obtain ⟨st, n, g3, cap3, xs, hc, hc0, rfl, rfl, rfl, HXS, HO, HG, hb⟩ := hrel
        obtain ⟨g0, g1, g2⟩ := HG.out
        by_cases hcl : st + n ≤ C
        · clear hc0
          have HR2 := Lib.hid (HRO.out st n)
          by_cases hcl2 : st + n < C
          · have hqs := HQS.out _ hcl2
            have HBY2 := Lib.hid (HBY.out _ hqs)
            have HR1 := Lib.hid (HRA.out st n hcl2)
            rw [HBY2.out] at HR1 HR2
            clear HBY2
            by_cases hy : gs[q + (st + n)] = 35
            · have q1 : ((gs[q + (st + n)].toNat : Int) != 35) = false := by rw [hy]; rfl
              have q2 : ((gs[q + (st + n)].toNat : Int) == 35) = true := by rw [hy]; rfl
              have HR3 := Lib.hid (HR2.out (fun _ => hy))
              clear HR1 HR2 hy
              have hsub : (st : Int) + (n : Int) - (st : Int) = (n : Int) := by omega
              by_cases h2 : 2 ≤ n
              · have HN : Hid ((xs ++ [(⟨r, st, false, n⟩ : Slt)]) ++ (runs (row.drop (st + n + 1 + 0)) (st + n + 1) 0).map (mkS r) = X) := Lib.hid (by
                  rw [← HXS.out, HR3.out, if_pos h2]
                  simp [mkS])
                have hxl : xs.length ≤ 30 := by have h := HLN.out; rw [← HXS.out, List.length_append] at h; omega
                clear HXS HR3
                have hx : Below wr.heap.size wr (wr.alloc (.cells #[.int .i64 (r : Int), .int .i64 (st : Int), .bool false, .int .i64 (n : Int)] 114)) := (Below.refl _ _).alloc (Nat.le_refl _) _
                have KN := Lib.hid (new_slt wr ⟨r, st, false, n⟩ 114)
                replace HO := Lib.hid (own_below HO.out hx)
                replace HG := Lib.hid (HG.out.kept hx)
                have hsz := hb.size
                have hgz := HG.out.lt
                replace hb := hb.trans (hx.mono hb.size)
                clear hx
                go_wp2_with (at_builtin; go_must (refine wpList_append_own _ rfl (.tmp 40) (.tmp 47) 84 rfl (w.heap.size + 1) 114 i0 _ 4 32 Try.underlying84 hi0 hi1 hi2 hi3 rfl (by decide) _ xs.length (xs.flatMap Slt.enc) (by rfl) HO.out ⟨wr.heap.size, 0, none⟩ 1 1 (Slt.enc ⟨r, st, false, n⟩) (by rfl) rfl KN.out (slt_one ⟨r, st, false, n⟩) ?c1 ?c2 ?c3 ?_))
                case c1 => unfold maxLen; omega
                case c2 => omega
                (try case c3 => (first | omega | (simp only [World.size_alloc]; omega)))
                intro v' w7 hown hgr hnil
                obtain ⟨g7, cap7, rfl, _⟩ := own_some hown (fun e => by have h := hnil; rw [e] at h; simp at h)
                have hb7 := hb.grown hgr hb.size (fun q e => by have := (HO.out.lt q e).1; omega)
                have HL7 : Hid ((xs ++ [(⟨r, st, false, n⟩ : Slt)]).length = xs.length + 1) := Lib.hid (by simp)
                have HO7 := Lib.hid (own_as hown (flat_snoc Slt.enc xs _))
                have HG7 := Lib.hid (HG.out.grown hgr (own_ne HO.out (by omega)))
                clear hown hgr hnil KN HO hb HG
                go_wp2
                go_roundw
                case rel => exact ⟨st + n + 1, 0, g7, cap7, xs ++ [⟨r, st, false, n⟩], by omega, fun _ => rfl, by go_num, by go_num, by rw [HL7.out], HN, by rw [HL7.out]; exact HO7, HG7, hb7⟩
                case measure => simp [intOf]; omega
              · have HN : Hid (xs ++ (runs (row.drop (st + n + 1 + 0)) (st + n + 1) 0).map (mkS r) = X) := Lib.hid (by
                  rw [← HXS.out, HR3.out, if_neg h2]
                  rfl)
                clear HXS HR3
                go_wp2
                go_roundw
                case rel => exact ⟨st + n + 1, 0, g3, cap3, xs, by omega, fun _ => rfl, by go_num, by go_num, rfl, HN, HO, HG, hb⟩
                case measure => simp [intOf]; omega
            · have q1 : ((gs[q + (st + n)].toNat : Int) == 35) = false := beq_eq_false_iff_ne.2 (fun e => hy (UInt8.toNat_inj.1 (by have h35 : (35 : UInt8).toNat = 35 := rfl; omega)))
              have q2 : ((gs[q + (st + n)].toNat : Int) != 35) = true := by rw [bne, q1]; rfl
              have HN : Hid (xs ++ (runs (row.drop (st + (n + 1))) st (n + 1)).map (mkS r) = X) := Lib.hid (by rw [← HR1.out hy]; exact HXS.out)
              clear HR1 HR2 HXS hy
              go_wp2
              go_roundw
              case rel => exact ⟨st, n + 1, g3, cap3, xs, by omega, fun h => by omega, rfl, by go_num, rfl, HN, HO, HG, hb⟩
              case measure => simp [intOf]; omega
          · have HR3 := Lib.hid (HR2.out (fun h => absurd h hcl2))
            have hcl3 : ¬ (st : Int) + (n : Int) < (C : Int) := by omega
            clear HR2
            have hsub : (st : Int) + (n : Int) - (st : Int) = (n : Int) := by omega
            by_cases h2 : 2 ≤ n
            · have HN : Hid ((xs ++ [(⟨r, st, false, n⟩ : Slt)]) ++ (runs (row.drop (st + n + 1 + 0)) (st + n + 1) 0).map (mkS r) = X) := Lib.hid (by
                rw [← HXS.out, HR3.out, if_pos h2]
                simp [mkS])
              have hxl : xs.length ≤ 30 := by have h := HLN.out; rw [← HXS.out, List.length_append] at h; omega
              clear HXS HR3
              have hx : Below wr.heap.size wr (wr.alloc (.cells #[.int .i64 (r : Int), .int .i64 (st : Int), .bool false, .int .i64 (n : Int)] 114)) := (Below.refl _ _).alloc (Nat.le_refl _) _
              have KN := Lib.hid (new_slt wr ⟨r, st, false, n⟩ 114)
              replace HO := Lib.hid (own_below HO.out hx)
              replace HG := Lib.hid (HG.out.kept hx)
              have hsz := hb.size
              have hgz := HG.out.lt
              replace hb := hb.trans (hx.mono hb.size)
              clear hx
              go_wp2_with (at_builtin; go_must (refine wpList_append_own _ rfl (.tmp 40) (.tmp 47) 84 rfl (w.heap.size + 1) 114 i0 _ 4 32 Try.underlying84 hi0 hi1 hi2 hi3 rfl (by decide) _ xs.length (xs.flatMap Slt.enc) (by rfl) HO.out ⟨wr.heap.size, 0, none⟩ 1 1 (Slt.enc ⟨r, st, false, n⟩) (by rfl) rfl KN.out (slt_one ⟨r, st, false, n⟩) ?c4 ?c5 ?c6 ?_))
              case c4 => unfold maxLen; omega
              case c5 => omega
              (try case c6 => (first | omega | (simp only [World.size_alloc]; omega)))
              intro v' w7 hown hgr hnil
              obtain ⟨g7, cap7, rfl, _⟩ := own_some hown (fun e => by have h := hnil; rw [e] at h; simp at h)
              have hb7 := hb.grown hgr hb.size (fun q e => by have := (HO.out.lt q e).1; omega)
              have HL7 : Hid ((xs ++ [(⟨r, st, false, n⟩ : Slt)]).length = xs.length + 1) := Lib.hid (by simp)
              have HO7 := Lib.hid (own_as hown (flat_snoc Slt.enc xs _))
              have HG7 := Lib.hid (HG.out.grown hgr (own_ne HO.out (by omega)))
              clear hown hgr hnil KN HO hb HG
              go_wp2
              go_roundw
              case rel => exact ⟨st + n + 1, 0, g7, cap7, xs ++ [⟨r, st, false, n⟩], by omega, fun _ => rfl, by go_num, by go_num, by rw [HL7.out], HN, by rw [HL7.out]; exact HO7, HG7, hb7⟩
              case measure => simp [intOf]; omega
            · have HN : Hid (xs ++ (runs (row.drop (st + n + 1 + 0)) (st + n + 1) 0).map (mkS r) = X) := Lib.hid (by
                rw [← HXS.out, HR3.out, if_neg h2]
                rfl)
              clear HXS HR3
              go_wp2
              go_roundw
              case rel => exact ⟨st + n + 1, 0, g3, cap3, xs, by omega, fun _ => rfl, by go_num, by go_num, rfl, HN, HO, HG, hb⟩
              case measure => simp [intOf]; omega
        · have hn0 : n = 0 := hc0 (by omega)
          subst hn0
          have HN : Hid (xs = X) := Lib.hid (by have h := HXS.out; rw [Nat.add_zero, HEN.out st (by omega)] at h; simpa using h)
          have HE : Hid (across (r + 1) C gs.data.toList = xs) := Lib.hid (by rw [HX.out, HN.out])
          clear hc0
          go_wp2
          go_roundw
          case rel => exact ⟨r + 1, g3, cap3, by omega, by go_num, by rw [HE.out], by rw [HE.out]; exact HO, HG, hb⟩
          case measure => simp [intOf]; omega
    · obtain rfl : r = R := by omega
      go_wp2
      go_ret
      exact ⟨g, cap, rfl, own_mono HO.out (by omega), hb⟩
end Go.Proofs.Ytjknpmdmchlfcaa
