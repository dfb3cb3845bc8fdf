/- Contracts: the reference's grid turned, and the slots of its rows. For grids of at most 5 rows and columns. -/
import Derived.Test.YtjknpmdmchlfcaaGrD
namespace Go.Proofs.Ytjknpmdmchlfcaa
open Go.ChangeShapes Go.WideShapes Go.ChangeAt Go.RowKit Go.Sort

theorem flat_get {α β : Type} {f : α → List β} {n : Nat} (hf : ∀ x, (f x).length = n) (xs : List α) {i : Nat} (hi : i < xs.length) {j : Nat} (hj : j < n) : (xs.flatMap f)[i * n + j]? = (f xs[i])[j]? := by
  induction xs generalizing i with
  | nil => simp at hi
  | cons x xs ih =>
    rw [List.flatMap_cons]
    cases i with
    | zero => rw [List.getElem?_append_left (by rw [hf]; omega)]; simp
    | succ i =>
      rw [List.getElem?_append_right (by rw [hf, Nat.succ_mul]; omega), hf]
      have e : (i + 1) * n + j - n = i * n + j := by rw [Nat.succ_mul]; omega
      rw [e, ih (by simpa using hi)]
      rfl
theorem flat_len {α β : Type} {f : α → List β} {n : Nat} (hf : ∀ x, (f x).length = n) (xs : List α) : (xs.flatMap f).length = xs.length * n := by
  induction xs with
  | nil => simp
  | cons x xs ih => rw [List.flatMap_cons, List.length_append, hf, ih, List.length_cons, Nat.add_mul]; omega
theorem turnL_len (R C : Nat) (L : List UInt8) : (turnL R C L).length = C * R := by
  unfold turnL
  rw [flat_len (n := R) (fun _ => by simp), List.length_range]
theorem turnL_take {R C : Nat} {L : List UInt8} {c r n : Nat} (hc : c < C) (hr : r < R) (hn : n = c * R + r) : (turnL R C L).take (n + 1) = (turnL R C L).take n ++ [L.getD (r * C + c) 0] := by
  have h1 : c * R + r < C * R := row_lt hc hr
  have hlt : n < (turnL R C L).length := by rw [turnL_len, hn]; exact h1
  rw [List.take_succ_eq_append_getElem hlt]
  congr 1
  have h2 : (turnL R C L)[n]? = some (L.getD (r * C + c) 0) := by
    rw [hn]
    unfold turnL
    rw [flat_get (n := R) (fun _ => by simp) (List.range C) (i := c) (by simpa using hc) (j := r) hr]
    simp [hr]
  rw [List.getElem?_eq_getElem hlt, Option.some.injEq] at h2
  rw [h2]
theorem atL_get {C : Nat} {L : List UInt8} {r c : Nat} (hc : c < C) : atL C L r c = L.getD (r * C + c) 0 := if_pos hc
set_option maxRecDepth 100000 in
set_option maxHeartbeats 4000000 in
theorem l25Turn_any (R C : Nat) (gs : ByteArray) (b o : Nat) (w : World) (hg : GAt w b o R C gs) (hR : R ≤ 5) (hC : C ≤ 5) (hz : gs.size = R * C) :
    Calls Try.prog 57 #[.pointer (some ⟨b, o, none⟩)] w fun e w' => e = .returned (.agg #[.int .i64 C, .int .i64 R, .string (mkB (turnL R C gs.data.toList))]) ∧ Below w.heap.size w w' := by
  obtain ⟨i0, hi0, hi1, hi2, hi3⟩ := info_parts infoByte
  have hbw := hg.lt
  have hx0 : Below w.heap.size w (w.alloc (.cells #[.int .i64 0, .int .i64 0, .string ⟨#[]⟩] 31)) := (Below.refl _ _).alloc (Nat.le_refl _) _
  have V0 := Lib.hid (VarAt.new w 31 [.int .i64 0, .int .i64 0, .string ⟨#[]⟩])
  have hsz0 : (w.alloc (.cells #[.int .i64 0, .int .i64 0, .string ⟨#[]⟩] 31)).heap.size = w.heap.size + 1 := by simp
  have hx1 : Below (w.heap.size + 1) (w.alloc (.cells #[.int .i64 0, .int .i64 0, .string ⟨#[]⟩] 31)) ((w.alloc (.cells #[.int .i64 0, .int .i64 0, .string ⟨#[]⟩] 31)).alloc (.cells #[] 5)) := by
    rw [← hsz0]; exact (Below.refl _ _).alloc (Nat.le_refl _) _
  have HO : Hid (((w.alloc (.cells #[.int .i64 0, .int .i64 0, .string ⟨#[]⟩] 31)).alloc (.cells #[] 5)).ownsRow (w.heap.size + 1) 5 1 (.slice (some ⟨w.heap.size + 1, 0, none⟩) 0 0) 0 []) := by
    have := World.ownsRow_made (base := w.heap.size + 1) (e := 5) (size := 1) (w.alloc (.cells #[.int .i64 0, .int .i64 0, .string ⟨#[]⟩] 31)) #[] 0 (by omega) (by unfold maxLen; omega) rfl
    rw [hsz0] at this
    exact Lib.hid this
  have hx1' : Below (w.alloc (.cells #[.int .i64 0, .int .i64 0, .string ⟨#[]⟩] 31)).heap.size (w.alloc (.cells #[.int .i64 0, .int .i64 0, .string ⟨#[]⟩] 31)) ((w.alloc (.cells #[.int .i64 0, .int .i64 0, .string ⟨#[]⟩] 31)).alloc (.cells #[] 5)) := (Below.refl _ _).alloc (Nat.le_refl _) _
  have HG := Lib.hid ((hg.kept hx0).kept hx1')
  replace V0 := Lib.hid (V0.out.kept hx1')
  have hb := hx0.trans (hx1'.mono hx0.size)
  have HZ := Lib.hid hz
  have HLN := Lib.hid (turnL_len R C gs.data.toList)
  have HTK := Lib.hid (fun (c r n : Nat) (h1 : c < C) (h2 : r < R) (h3 : n = c * R + r) => turnL_take (L := gs.data.toList) h1 h2 h3)
  have HAT : Hid (∀ (r c : Nat) W, r < R → c < C → GAt W b o R C gs → Calls Try.prog 101 #[.pointer (some ⟨b, o, none⟩), .int .i64 r, .int .i64 c] W fun e w' => e = .returned (.int .u8 ((gs.data.toList.getD (r * C + c) 0).toNat : Int)) ∧ Drew W w') := Lib.hid (fun r c W h1 h2 h3 => by
    have := l25At_any R C r c gs b o W h3 h1 hR hC (by omega) hz
    rwa [atL_get h2] at this)
  clear hx0 hx1 hx1' hg hz hsz0
  go_enter Try.func57, Try.ntmps57
  go_wp2_with fail
  go_loopw [3, 4] (fun ov iv wr => ∃ (c n g cap : Nat), c ≤ C ∧ iv = .int .i64 c ∧ ov = .slice (some ⟨g, 0, none⟩) n cap ∧ Hid (n = c * R) ∧ n ≤ 25 ∧ Hid (wr.ownsRow (w.heap.size + 1) 5 1 (.slice (some ⟨g, 0, none⟩) n cap) n (((turnL R C gs.data.toList).take n).flatMap U8.enc)) ∧ Hid (VarAt wr w.heap.size 31 [.int .i64 0, .int .i64 0, .string ⟨#[]⟩]) ∧ Hid (GAt wr b o R C gs) ∧ Below w.heap.size w wr) (fun _ iv _ => C - (intOf iv).toNat)
  case atStart => exact ⟨0, 0, _, 0, Nat.zero_le _, rfl, rfl, Lib.hid (by simp), by omega, HO, V0, HG, hb⟩
  case round =>
    clear HO V0 HG hb
    obtain ⟨c, n, g, cap, hc, rfl, rfl, HN, hn, HO, V0, HG, hb⟩ := hrel
    obtain ⟨g0, g1, g2⟩ := HG.out
    by_cases hlt : c < C
    · go_wp2_with fail
      obtain ⟨wo, rfl⟩ : ∃ wo : World, wo = wr := ⟨_, rfl⟩
      clear g0 g1 g2
      go_loopw [3, 5] (fun ov iv wr => ∃ (r m g cap : Nat), r ≤ R ∧ iv = .int .i64 r ∧ ov = .slice (some ⟨g, 0, none⟩) m cap ∧ Hid (m = c * R + r) ∧ m ≤ 25 ∧ Hid (wr.ownsRow (w.heap.size + 1) 5 1 (.slice (some ⟨g, 0, none⟩) m cap) m (((turnL R C gs.data.toList).take m).flatMap U8.enc)) ∧ Hid (VarAt wr w.heap.size 31 [.int .i64 0, .int .i64 0, .string ⟨#[]⟩]) ∧ Hid (GAt wr b o R C gs) ∧ Below w.heap.size w wr) (fun _ iv _ => R - (intOf iv).toNat)
      case atStart => exact ⟨0, n, g, cap, Nat.zero_le _, rfl, rfl, Lib.hid (by rw [HN.out]; rfl), hn, HO, V0, HG, hb⟩
      case round =>
        clear HO V0 HG hb hn HN
        obtain ⟨r, m, g2, cap2, hr, rfl, rfl, HM, hm, HO, V0, HG, hb⟩ := hrel
        obtain ⟨g0, g1, g3⟩ := HG.out
        by_cases hr2 : r < R
        · have HA := Lib.hid (HAT.out r c wr hr2 hlt HG.out)
          have HT := Lib.hid (HTK.out c r m hlt hr2 HM.out)
          have hm2 : m < 25 := by
            have h1 := HM.out
            have h2 := row_lt hlt hr2
            have h3 := small_mul hC hR
            omega
          have HM2 : Hid (m + 1 = c * R + (r + 1)) := Lib.hid (by have := HM.out; omega)
          generalize gs.data.toList.getD (r * C + c) 0 = y at *
          clear HM
          go_wp2_with fail
          refine HA.out.mono ?_
          rintro e w2 ⟨rfl, hdr⟩
          have hd := hdr.bel
          replace HO := Lib.hid (own_below HO.out hd)
          replace V0 := Lib.hid (V0.out.kept hd)
          replace HG := Lib.hid (HG.out.kept hd)
          replace hb := hb.trans (hd.mono hb.size)
          have hz2 := Nat.le_trans (Nat.succ_le_of_lt V0.out.lt) (Nat.le_refl _)
          clear hd hdr HA g0 g1 g3
          have hx : Below w2.heap.size w2 (w2.alloc (.cells #[.int .u8 (y.toNat : Int)] 5)) := (Below.refl _ _).alloc (Nat.le_refl _) _
          have KN := Lib.hid (new_byte w2 y 5)
          replace HO := Lib.hid (own_below HO.out hx)
          replace V0 := Lib.hid (V0.out.kept hx)
          replace HG := Lib.hid (HG.out.kept hx)
          replace hb := hb.trans (hx.mono hb.size)
          clear hx
          go_wp2_with (at_builtin; go_must (refine wpList_append_own _ rfl (.tmp 23) (.tmp 28) 39 rfl (w.heap.size + 1) 5 i0 _ 1 1 Try.underlying39 hi0 hi1 hi2 hi3 rfl (by decide) _ m (((turnL R C gs.data.toList).take m).flatMap U8.enc) (by rfl) HO.out ⟨w2.heap.size, 0, none⟩ 1 1 (U8.enc y) (by rfl) rfl KN.out (u8_one1 y) ?c1 ?c2 ?c3 ?_))
          case c1 => unfold maxLen; omega
          case c2 => omega
          case c3 => (first | omega | (simp only [World.size_alloc]; omega))
          intro v' w7 hown hgr hnil
          obtain ⟨g7, cap7, rfl, _⟩ := own_some hown (fun e => by have h := hnil; rw [e] at h; simp at h)
          have hb7 := hb.grown hgr hb.size (fun q e => by have := (HO.out.lt q e).1; omega)
          have HO7 : Hid (w7.ownsRow (w.heap.size + 1) 5 1 (.slice (some ⟨g7, 0, none⟩) (m + 1) cap7) (m + 1) (((turnL R C gs.data.toList).take (m + 1)).flatMap U8.enc)) := Lib.hid (by
            rw [HT.out, ← flat_snoc U8.enc]; exact hown)
          have V7 := Lib.hid (V0.out.grown hgr (own_ne HO.out (by omega)))
          have HG7 := Lib.hid (HG.out.grown hgr (own_ne HO.out (by omega)))
          clear hown hgr hnil KN HO hb V0 HG HT
          go_wp2
          go_roundw
          case rel => exact ⟨r + 1, m + 1, g7, cap7, by omega, by go_num, by go_num, HM2, by omega, HO7, V7, HG7, hb7⟩
          case measure => simp [intOf]; omega
        · obtain rfl : r = R := by omega
          have HM2 : Hid (m = (c + 1) * r) := Lib.hid (by rw [Nat.succ_mul]; exact HM.out)
          clear HM g0 g1 g3
          obtain ⟨g0, g1, g3⟩ := HG.out
          go_wp2
          go_roundw
          case rel => exact ⟨c + 1, m, g2, cap2, by omega, by go_num, rfl, HM2, hm, HO, V0, HG, hb⟩
          case measure => simp [intOf]; omega
    · obtain rfl : c = C := by omega
      have HE : Hid ((turnL R c gs.data.toList).take n = turnL R c gs.data.toList) := Lib.hid (List.take_of_length_le (by rw [HLN.out, HN.out]; exact Nat.le_refl _))
      have hO := HO.out
      rw [HE.out] at hO
      have HNL : Hid (n = (turnL R c gs.data.toList).length) := Lib.hid (by rw [HN.out, HLN.out])
      generalize hP : turnL R c gs.data.toList = P at *
      have HP := Lib.hid hP
      clear hP
      clear HO
      have HO := Lib.hid hO
      clear hO
      go_upto_region 9 with fail
      have hk2 : Below wr.heap.size wr wr.drew := (Below.refl _ _).drew
      have V0d := Lib.hid (V0.out.kept hk2)
      have HOd := Lib.hid (own_below HO.out hk2)
      have HGd := Lib.hid (HG.out.kept hk2)
      have hbd := hb.trans (hk2.mono hb.size)
      clear V0 HO HG hb hk2 g0 g1 g2
      refine wp_region_still_tail 11 (by kernel_rfl) (by kernel_rfl) ?_
      simp only [List.take_succ_cons, List.take_zero, List.drop_succ_cons, List.drop_zero]
      change wpStill _ _ wr.drew (fun a' => wpList _ _ _ _ a' wr.drew) _ _
      generalize wr.drew = wd at *
      obtain ⟨g0, g1, g2⟩ := HGd.out
      have hcv := own_bytes HOd.out HNL.out
      repeat still_step
      refine wpStill_nil ?_
      have q0 := V0d.out.cell (i := 0) rfl
      have q1 := V0d.out.cell (i := 1) rfl
      have q2 := V0d.out.cell (i := 2) rfl
      have p0 := V0d.out.free 0
      have p1 := V0d.out.free 1
      have p2 := V0d.out.free 2
      obtain ⟨o0, k0⟩ := V0d.out.set 0 (.int .i64 c)
      obtain ⟨o1, k1⟩ := o0.set 1 (.int .i64 R)
      obtain ⟨o2, k2⟩ := o1.set 2 (.string (mkB P))
      have GG := grownBy_trans (grownBy_trans k0 k1) k2
      have hb9 := hbd.grown GG hbd.size (fun q h => by cases h; exact Nat.le_refl _)
      have e0 := o2.cell (i := 0) (v := .int .i64 c) rfl
      have e1 := o2.cell (i := 1) (v := .int .i64 R) rfl
      have e2 := o2.cell (i := 2) (v := .string (mkB P)) rfl
      clear o0 o1 o2 k0 k1 k2 GG hcv
      go_wp2
      refine bodyPost_ret (v := .agg #[.int .i64 c, .int .i64 R, .string (mkB P)]) (by simp [results, Try.results57, go_sem, e0, e1, e2]) rfl ?_
      exact ⟨by rw [HP.out], hb9⟩
theorem runs_flush {l : List UInt8} {c n : Nat} (h : ∀ hk : c + n < l.length, l[c + n] = 35) : runs (l.drop (c + n)) c n = (if 2 ≤ n then [(c, n)] else []) ++ runs (l.drop (c + n + 1)) (c + n + 1) 0 := by
  by_cases hk : c + n < l.length
  · exact runs_stop hk (h hk) c n
  · rw [runs_end (by omega), runs_end (by omega)]
    simp
def mkS (r : Nat) (p : Nat × Nat) : Slt := ⟨r, p.1, false, p.2⟩
theorem across_succ (C : Nat) (L : List UInt8) (r : Nat) : across (r + 1) C L = across r C L ++ acrossR C L r := by
  unfold across
  rw [List.range_succ, List.flatMap_append]
  simp
theorem slt_one (s : Slt) : ∀ u ∈ Slt.enc s, u.oneCell' = true := by
  intro u hu
  simp only [Slt.enc, List.mem_cons, List.not_mem_nil, or_false] at hu
  rcases hu with rfl | rfl | rfl | rfl <;> rfl
theorem new_slt (w : World) (s : Slt) (e : TypeId) : ∀ j u, (Slt.enc s)[j]? = some u → (w.alloc (.cells #[.int .i64 (s.row : Int), .int .i64 (s.col : Int), .bool s.down, .int .i64 (s.len : Int)] e)).cell? ((⟨w.heap.size, 0, none⟩ : Addr).add j) = some u := by
  intro j u hu
  rw [Go.Addr.add_lit, Nat.zero_add]
  match j, hu with
  | 0, hu => simp only [Slt.enc, List.getElem?_cons_zero, Option.some.injEq] at hu; subst hu; exact cell_new0 w _ e rfl
  | 1, hu => simp only [Slt.enc, List.getElem?_cons_succ, List.getElem?_cons_zero, Option.some.injEq] at hu; subst hu; exact cell_new0 w _ e rfl
  | 2, hu => simp only [Slt.enc, List.getElem?_cons_succ, List.getElem?_cons_zero, Option.some.injEq] at hu; subst hu; exact cell_new0 w _ e rfl
  | 3, hu => simp only [Slt.enc, List.getElem?_cons_succ, List.getElem?_cons_zero, Option.some.injEq] at hu; subst hu; exact cell_new0 w _ e rfl
  | j + 4, hu => simp [Slt.enc] at hu
theorem infoSlt : (Try.prog.info? 114).map (fun i => (i.zero, i.size, i.bytes)) = some (some (.agg #[.int .i64 0, .int .i64 0, .bool false, .int .i64 0]), 4, 32) := by kernel_rfl
/-- slots in a row of the call's own -/
def SlotsPost (w : World) (xs : List Slt) (e : Ending) (w' : World) : Prop :=
  ∃ g cap, e = .returned (.slice (some ⟨g, 0, none⟩) xs.length cap) ∧ w'.ownsRow w.heap.size 114 4 (.slice (some ⟨g, 0, none⟩) xs.length cap) xs.length (xs.flatMap Slt.enc) ∧ Below w.heap.size w w'
theorem runs_len : ∀ (l : List UInt8) (s n : Nat), (runs l s n).length ≤ l.length + 1 := by
  intro l
  induction l with
  | nil => intro s n; unfold runs; split <;> simp
  | cons c l ih =>
    intro s n
    unfold runs
    split
    · have := ih (s + n + 1) 0
      rw [List.length_append, List.length_cons]
      split <;> simp <;> omega
    · have := ih s (n + 1)
      rw [List.length_cons]
      omega
theorem across_len (R C : Nat) (L : List UInt8) : (across R C L).length ≤ R * (C + 1) := by
  induction R with
  | zero => simp [across]
  | succ R ih =>
    rw [across_succ, List.length_append, Nat.succ_mul]
    have h1 : (acrossR C L R).length ≤ C + 1 := by
      unfold acrossR
      rw [List.length_map]
      have h2 := runs_len (rowL C L R) 0 0
      have h3 : (rowL C L R).length ≤ C := List.length_take_le _ _
      omega
    omega
end Go.Proofs.Ytjknpmdmchlfcaa
