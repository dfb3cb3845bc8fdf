/- Contract: the program's letters around a square, for plays across and for both. For valid boards. -/
import Derived.Test.YtoeoijkhlpacdaaDoorBrI
import Derived.Test.YtoeoijkhlpacdaaDoorBrH
import Derived.Test.YtoeoijkhlpacdaaDoorBrJ
namespace Go.Proofs.YtoeoijkhlpacdaaDoor
open Go.ChangeShapes Go.WideShapes Go.ChangeAt Go.RowKit Go.Sort

set_option maxRecDepth 100000 in
set_option maxHeartbeats 8000000 in
theorem iaround_across (b : Brd) (n : Nat) (r c : Int) (w : World) (hb0 : b.Good n) (hi : b.inB r c = true) :
    Calls Tryd.prog 25 #[.agg #[.int .i64 b.size, .string b.premium, .string b.cells], .int .i64 r, .int .i64 c, .bool false] w fun e w' => e = .returned (aroundS b r c false) ∧ Below w.heap.size w w' := by
  obtain ⟨i0, hi0, hi1, hi2, hi3⟩ := info_parts infoByte
  have hn15 := hb0.hi
  obtain ⟨⟨hr0, hr1⟩, hc0, hc1⟩ := hb0.inB.1 hi
  obtain ⟨sm, hsm⟩ : ∃ sm : ByteArray → ByteArray, ∀ s, sm s = mkB (lowL s.data.toList) := ⟨_, fun _ => rfl⟩
  obtain ⟨bk, hbk⟩ : ∃ bk : ByteArray → ByteArray, ∀ s, bk s = mkB s.data.toList.reverse := ⟨_, fun _ => rfl⟩
  have HSM : Hid (∀ s W, s.size ≤ 1048576 → (∀ x ∈ s.data.toList, x.toNat < 128) → Calls Tryd.prog 46 #[.string s] W fun e w' => e = .returned (.string (sm s)) ∧ Below W.heap.size W w') := Lib.hid (fun s W h h2 => by rw [hsm]; exact lower_ascii s W h h2)
  have HBK : Hid (∀ s W, s.size ≤ 1048576 → Calls Tryd.prog 47 #[.string s] W fun e w' => e = .returned (.string (bk s)) ∧ Below W.heap.size W w') := Lib.hid (fun s W h => by rw [hbk]; exact reversed_any s W h)
  have HBL : Hid (∀ s, (bk s).size = s.size ∧ (∀ x ∈ (bk s).data.toList, x ∈ s.data.toList)) := Lib.hid (fun s => by
    rw [hbk, mkB_size, List.length_reverse, mkB_data]
    exact ⟨by simp, fun x hx => List.mem_reverse.1 hx⟩)
  obtain ⟨f, hf⟩ : ∃ f : Int → UInt8, ∀ m, f m = b.cell (r + m) (c) := ⟨_, fun _ => rfl⟩
  have HAC : Hid (∀ m W, -20 ≤ m ∧ m ≤ 20 → Calls Tryd.prog 134 #[.agg #[], .int .i64 r, .int .i64 c, .int .i64 m] W fun e w' => e = .returned (.agg #[.int .i64 (r + m), .int .i64 c]) ∧ Below W.heap.size W w') := Lib.hid (fun m W h => dat_any r c m W (by omega))
  have HON : Hid (∀ m W, Calls Tryd.prog 24 #[.agg #[.int .i64 b.size, .string b.premium, .string b.cells], .agg #[.int .i64 (r + m), .int .i64 c]] W fun e w' => e = .returned (.bool (fullC (f m))) ∧ Below W.heap.size W w') := Lib.hid (fun m W => by rw [hf]; exact on_any b n _ _ W hb0)
  have HCE : Hid (∀ m W, Calls Tryd.prog 45 #[.agg #[.int .i64 b.size, .string b.premium, .string b.cells], .int .i64 (r + m), .int .i64 c] W fun e w' => e = .returned (.int .u8 ((f m).toNat : Int)) ∧ Below W.heap.size W w') := Lib.hid (fun m W => by rw [hf]; exact cell_any b n _ _ W hb0)
  have HIN : Hid (∀ m, fullC (f m) = true → -15 ≤ m ∧ m ≤ 15) := Lib.hid (fun m h => by
    rw [hf] at h
    have := hb0.inB.1 (hb0.full_in h)
    omega)
  have HLT : Hid (∀ m, fullC (f m) = true → (f m).toNat < 128) := Lib.hid (fun m h => by
    rw [hf] at h ⊢
    exact let_ascii (hb0.full_let h))
  have HRES : Hid (aroundS b r c false = .agg #[.string (sm (bk (mkB (runD f 16 (-1))))), .string (sm (mkB (runI f 16 1)))]) := Lib.hid (by
    rw [hsm, hsm, hbk, mkB_data, mkB_data, mkB_data]
    unfold aroundS Brd.around
    rw [if_neg (by decide), show r - 1 = r + -1 from rfl, upL_run b.cell c r f (fun m => hf m) 16 (-1), dnL_run b.cell c r f (fun m => hf m) 16 1])
  rw [HRES.out]
  have HPD : Hid (∀ x ∈ runD f 16 (-1), x.toNat < 128) := Lib.hid (runD_mem (p := fun x => x.toNat < 128) HLT.out 16 (-1))
  have HPI : Hid (∀ x ∈ runI f 16 1, x.toNat < 128) := Lib.hid (runI_mem (p := fun x => x.toNat < 128) HLT.out 16 1)
  clear HRES HLT hsm hbk hf hb0 hi
  generalize b.size = sz at *
  generalize b.premium = pr at *
  generalize b.cells = ce at *
  obtain ⟨w2, hw2⟩ : ∃ w2, w2 = (w.alloc (.cells #[.int .i64 sz, .string pr, .string ce] 29)).alloc (.cells #[.string ⟨#[]⟩, .string ⟨#[]⟩] 26) := ⟨_, rfl⟩
  have hb : Below w.heap.size w w2 := by rw [hw2]; exact ((Below.refl _ _).alloc (Nat.le_refl _) _).alloc (by simp) _
  have VB : Hid (VarAt w2 w.heap.size 29 [.int .i64 sz, .string pr, .string ce]) := by
    rw [hw2]
    exact Lib.hid ((VarAt.new w 29 [.int .i64 sz, .string pr, .string ce]).kept ((Below.refl _ _).alloc (Nat.le_refl _) _))
  have V0 : Hid (VarAt w2 (w.heap.size + 1) 26 [.string ⟨#[]⟩, .string ⟨#[]⟩]) := by
    rw [hw2]
    have := VarAt.new (w.alloc (.cells #[.int .i64 sz, .string pr, .string ce] 29)) 26 [.string ⟨#[]⟩, .string ⟨#[]⟩]
    simp only [World.size_alloc] at this
    exact Lib.hid this
  have HW2 := Lib.hid hw2
  clear hw2
  go_enter Tryd.func25, Tryd.ntmps25
  go_wp2_with fail
  refine (directionOf_any _ _).mono ?_
  rintro e w' ⟨rfl, rfl⟩
  rw [← HW2.out]
  clear HW2
  rw [show dirV false = .iface 94 (.agg #[]) from rfl]
  go_wp2_with fail
  refine (rcross_any _).mono ?_
  rintro e w3 ⟨rfl, hd⟩
  rw [show dirV true = .iface 93 (.agg #[]) from rfl]
  replace V0 := Lib.hid (V0.out.kept hd)
  replace VB := Lib.hid (VB.out.kept hd)
  replace hb := hb.trans (hd.mono hb.size)
  clear hd
  go_wp2_with fail
  go_loopw [10, 12] (fun ov iv wr => ∃ (pre : List UInt8) (k : Nat) (m : Int) (v : Value), pre.length = k ∧ k ≤ 15 ∧ m + k + 1 = 0 ∧ iv = .int .i64 m ∧ v = ov ∧ Hid (pre ++ runD f (16 - k) m = runD f 16 (-1)) ∧ Hid (wr.ownsRow (w.heap.size + 2) 5 1 v k (pre.flatMap U8.enc)) ∧ Hid (VarAt wr (w.heap.size + 1) 26 [.string ⟨#[]⟩, .string ⟨#[]⟩]) ∧ Hid (VarAt wr w.heap.size 29 [.int .i64 sz, .string pr, .string ce]) ∧ Below w.heap.size w wr) (fun _ iv _ => (intOf iv + 17).toNat)
  case atStart => exact ⟨[], 0, (-1), .slice none 0 0, rfl, by omega, by omega, rfl, rfl, Lib.hid rfl, Lib.hid (World.ownsRow_nil _ _ _ _), V0, VB, hb⟩
  case round =>
    clear V0 VB hb
    obtain ⟨pre, k, m, v, hpl, hk15, hm, rfl, rfl, HP, HO, V0, VB, hb⟩ := hrel
    have hz2 := V0.out.lt
    cases hf : fullC (f m) with
    | true =>
      obtain ⟨hm1, hm2⟩ := HIN.out m hf
      obtain ⟨j, hj⟩ : ∃ j, 16 - k = j + 1 := ⟨15 - k, by omega⟩
      have HP2 : Hid ((pre ++ [f m]) ++ runD f (16 - (k + 1)) (m - 1) = runD f 16 (-1)) := Lib.hid (by
        have h := HP.out
        rw [hj, runD_full hf] at h
        rw [show 16 - (k + 1) = j from by omega]
        exact step_run h)
      clear hj HP
      go_upto_region 4 with fail
      have hd : Below wr.heap.size wr wr.drew := (Below.refl _ _).drew
      have hgs : wr.heap.size ≤ wr.heap.size := Nat.le_refl _
      replace HO := Lib.hid (own_below HO.out hd)
      (try replace HX := Lib.hid (own_below HX.out hd))
      replace V0 := Lib.hid (V0.out.kept hd)
      replace VB := Lib.hid (VB.out.kept hd)
      have hgz := Nat.le_trans hgs hd.size
      clear hgs
      have hgs := hgz
      clear hgz
      replace hb := hb.trans (hd.mono hb.size)
      clear hd
      go_region_held3 (fun w' => w'.cell? ⟨w.heap.size, 0, none⟩ = some (.int .i64 sz) ∧ w'.cell? ⟨w.heap.size, 1, none⟩ = some (.string pr) ∧ w'.cell? ⟨w.heap.size, 2, none⟩ = some (.string ce))
        (exact ⟨VB.out.cell (i := 0) rfl, VB.out.cell (i := 1) rfl, VB.out.cell (i := 2) rfl⟩)
        (((first | (go_at_call 134; refine (HAC.out m _ (by omega)).mono ?_; rintro e wq ⟨rfl, hd⟩) | (go_at_call 24; refine (HON.out m _).mono ?_; rintro e wq ⟨rfl, hd⟩; rw [hf])); replace HO := Lib.hid (own_below HO.out hd); (try replace HX := Lib.hid (own_below HX.out hd)); replace V0 := Lib.hid (V0.out.kept hd); replace VB := Lib.hid (VB.out.kept hd); replace hgs := Nat.le_trans hgs hd.size; replace hb := hb.trans (hd.mono hb.size); clear hd))
      clear hf
      generalize wq = wa at *
      go_wp2_with fail
      refine (HAC.out m _ (by omega)).mono ?_
      rintro e wq ⟨rfl, hd⟩
      replace HO := Lib.hid (own_below HO.out hd)
      (try replace HX := Lib.hid (own_below HX.out hd))
      replace V0 := Lib.hid (V0.out.kept hd)
      replace VB := Lib.hid (VB.out.kept hd)
      have hgz := Nat.le_trans hgs hd.size
      clear hgs
      have hgs := hgz
      clear hgz
      replace hb := hb.trans (hd.mono hb.size)
      clear hd
      have hd : Below wq.heap.size wq (wq.alloc (.cells #[.int .i64 (r + m), .int .i64 c] 52)) := (Below.refl _ _).alloc (Nat.le_refl _) _
      replace HO := Lib.hid (own_below HO.out hd)
      (try replace HX := Lib.hid (own_below HX.out hd))
      replace V0 := Lib.hid (V0.out.kept hd)
      replace VB := Lib.hid (VB.out.kept hd)
      have hgz := Nat.le_trans hgs hd.size
      clear hgs
      have hgs := hgz
      clear hgz
      replace hb := hb.trans (hd.mono hb.size)
      clear hd
      have b0 := VB.out.cell (i := 0) rfl
      have b1 := VB.out.cell (i := 1) rfl
      have b2 := VB.out.cell (i := 2) rfl
      go_wp2_with fail
      clear b0 b1 b2
      refine (HCE.out m _).mono ?_
      rintro e wb ⟨rfl, hd⟩
      replace HO := Lib.hid (own_below HO.out hd)
      (try replace HX := Lib.hid (own_below HX.out hd))
      replace V0 := Lib.hid (V0.out.kept hd)
      replace VB := Lib.hid (VB.out.kept hd)
      have hgz := Nat.le_trans hgs hd.size
      clear hgs
      have hgs := hgz
      clear hgz
      replace hb := hb.trans (hd.mono hb.size)
      clear hd
      generalize f m = x at *
      have hd : Below wb.heap.size wb (wb.alloc (.cells #[.int .u8 (x.toNat : Int)] 5)) := (Below.refl _ _).alloc (Nat.le_refl _) _
      have KN := Lib.hid (new_byte wb x 5)
      replace HO := Lib.hid (own_below HO.out hd)
      (try replace HX := Lib.hid (own_below HX.out hd))
      replace V0 := Lib.hid (V0.out.kept hd)
      replace VB := Lib.hid (VB.out.kept hd)
      have hgz := Nat.le_trans hgs hd.size
      clear hgs
      have hgs := hgz
      clear hgz
      replace hb := hb.trans (hd.mono hb.size)
      clear hd
      go_wp2_with (at_builtin; go_must (refine wpList_append_lies _ rfl (.tmp 33) (.tmp 40) 70 rfl (w.heap.size + 2) 5 i0 _ 1 1 Tryd.underlying70 hi0 hi1 hi2 hi3 rfl (by decide) v k (pre.flatMap U8.enc) (by rfl) HO.out ⟨wb.heap.size, 0, none⟩ 1 1 (U8.enc x) (by rfl) rfl KN.out (u8_one1 x) (by decide) ?c1 ?c2 ?c3 _ rfl ?_))
      case c1 => unfold maxLen; omega
      case c2 => omega
      case c3 => (first | omega | (simp only [World.size_alloc]; omega))
      intro g7 cap7 w7 hown hgr hwh hlt7
      have hb7 := hb.grown hgr hb.size (fun q e => by have := (HO.out.lt q e).1; omega)
      have HO7 : Hid (w7.ownsRow (w.heap.size + 2) 5 1 (.slice (some ⟨g7, 0, none⟩) (k + 1) cap7) (k + 1) ((pre ++ [x]).flatMap U8.enc)) := Lib.hid (by rw [snoc_flat U8.enc]; exact hown)
      have V7 := Lib.hid (V0.out.grown hgr (own_ne HO.out (by omega)))
      have VB7 := Lib.hid (VB.out.grown hgr (own_ne HO.out (by omega)))
      clear hown hgr hwh KN HO hb V0 VB
      go_wp2
      go_roundw
      case rel => exact ⟨pre ++ [x], k + 1, m - 1, _, by simp [hpl], by omega, by omega, by go_num, rfl, HP2, HO7, V7, VB7, hb7⟩
      case measure => simp [intOf]; omega
    | false =>
      have HPE : Hid (pre = runD f 16 (-1)) := Lib.hid (by
        have h := HP.out
        rw [runD_stop hf, List.append_nil] at h
        exact h)
      clear HP
      go_upto_region 4 with fail
      have hd : Below wr.heap.size wr wr.drew := (Below.refl _ _).drew
      have hgs : wr.heap.size ≤ wr.heap.size := Nat.le_refl _
      replace HO := Lib.hid (own_below HO.out hd)
      (try replace HX := Lib.hid (own_below HX.out hd))
      replace V0 := Lib.hid (V0.out.kept hd)
      replace VB := Lib.hid (VB.out.kept hd)
      have hgz := Nat.le_trans hgs hd.size
      clear hgs
      have hgs := hgz
      clear hgz
      replace hb := hb.trans (hd.mono hb.size)
      clear hd
      go_region_held3 (fun w' => w'.cell? ⟨w.heap.size, 0, none⟩ = some (.int .i64 sz) ∧ w'.cell? ⟨w.heap.size, 1, none⟩ = some (.string pr) ∧ w'.cell? ⟨w.heap.size, 2, none⟩ = some (.string ce))
        (exact ⟨VB.out.cell (i := 0) rfl, VB.out.cell (i := 1) rfl, VB.out.cell (i := 2) rfl⟩)
        (((first | (go_at_call 134; refine (HAC.out m _ (by omega)).mono ?_; rintro e wq ⟨rfl, hd⟩) | (go_at_call 24; refine (HON.out m _).mono ?_; rintro e wq ⟨rfl, hd⟩; rw [hf])); replace HO := Lib.hid (own_below HO.out hd); (try replace HX := Lib.hid (own_below HX.out hd)); replace V0 := Lib.hid (V0.out.kept hd); replace VB := Lib.hid (VB.out.kept hd); replace hgs := Nat.le_trans hgs hd.size; replace hb := hb.trans (hd.mono hb.size); clear hd))
      clear hf
      generalize wq = wa at *
      obtain ⟨v1, hv1⟩ : ∃ v1, v1 = v := ⟨_, rfl⟩
      obtain ⟨k1, hk1⟩ : ∃ k1, k1 = k := ⟨_, rfl⟩
      obtain ⟨pre1, hpre1⟩ : ∃ pre1, pre1 = pre := ⟨_, rfl⟩
      rw [← hv1, ← hk1, ← hpre1] at HO
      rw [← hpre1] at HPE
      have HPE1 := HPE
      have hk151 : k1 ≤ 15 := by omega
      have hpl1 : pre1.length = k1 := by rw [hpre1, hk1]; exact hpl
      rw [← hv1]
      clear HPE hv1 hk1 hpre1 hpl hm hk15 hgs
      go_wp2_with fail
      go_loopw [11, 14] (fun ov iv wr => ∃ (pre : List UInt8) (k : Nat) (m : Int) (v : Value), pre.length = k ∧ k ≤ 15 ∧ k + 1 = m ∧ iv = .int .i64 m ∧ v = ov ∧ Hid (pre ++ runI f (16 - k) m = runI f 16 1) ∧ (v1.ownBlock = none ∨ v1.ownBlock ≠ v.ownBlock) ∧ (∀ q, v1.ownBlock = some q → q < wr.heap.size) ∧ Hid (wr.ownsRow (w.heap.size + 2) 5 1 v k (pre.flatMap U8.enc)) ∧ Hid (wr.ownsRow (w.heap.size + 2) 5 1 v1 k1 (pre1.flatMap U8.enc)) ∧ Hid (VarAt wr (w.heap.size + 1) 26 [.string ⟨#[]⟩, .string ⟨#[]⟩]) ∧ Hid (VarAt wr w.heap.size 29 [.int .i64 sz, .string pr, .string ce]) ∧ Below w.heap.size w wr) (fun _ iv _ => (17 - intOf iv).toNat)
      case atStart => exact ⟨[], 0, 1, .slice none 0 0, rfl, by omega, by omega, rfl, rfl, Lib.hid rfl, (by cases v1.ownBlock <;> simp [Value.ownBlock]), (fun q hq => (HO.out.lt q hq).2), Lib.hid (World.ownsRow_nil _ _ _ _), HO, V0, VB, hb⟩
      case round =>
        clear V0 VB hb HO
        obtain ⟨pre, k, m, v, hpl, hk15, hm, rfl, rfl, HP, hne, hlt1, HO, HX, V0, VB, hb⟩ := hrel
        have hz2 := V0.out.lt
        cases hf : fullC (f m) with
        | true =>
          obtain ⟨hm1, hm2⟩ := HIN.out m hf
          obtain ⟨j, hj⟩ : ∃ j, 16 - k = j + 1 := ⟨15 - k, by omega⟩
          have HP2 : Hid ((pre ++ [f m]) ++ runI f (16 - (k + 1)) (m + 1) = runI f 16 1) := Lib.hid (by
            have h := HP.out
            rw [hj, runI_full hf] at h
            rw [show 16 - (k + 1) = j from by omega]
            exact step_run h)
          clear hj HP
          go_upto_region 9 with fail
          have hd : Below wr.heap.size wr wr.drew := (Below.refl _ _).drew
          have hgs : wr.heap.size ≤ wr.heap.size := Nat.le_refl _
          replace HO := Lib.hid (own_below HO.out hd)
          (try replace HX := Lib.hid (own_below HX.out hd))
          replace V0 := Lib.hid (V0.out.kept hd)
          replace VB := Lib.hid (VB.out.kept hd)
          have hgz := Nat.le_trans hgs hd.size
          clear hgs
          have hgs := hgz
          clear hgz
          replace hb := hb.trans (hd.mono hb.size)
          clear hd
          go_region_held3 (fun w' => w'.cell? ⟨w.heap.size, 0, none⟩ = some (.int .i64 sz) ∧ w'.cell? ⟨w.heap.size, 1, none⟩ = some (.string pr) ∧ w'.cell? ⟨w.heap.size, 2, none⟩ = some (.string ce))
            (exact ⟨VB.out.cell (i := 0) rfl, VB.out.cell (i := 1) rfl, VB.out.cell (i := 2) rfl⟩)
            (((first | (go_at_call 134; refine (HAC.out m _ (by omega)).mono ?_; rintro e wq ⟨rfl, hd⟩) | (go_at_call 24; refine (HON.out m _).mono ?_; rintro e wq ⟨rfl, hd⟩; rw [hf])); replace HO := Lib.hid (own_below HO.out hd); (try replace HX := Lib.hid (own_below HX.out hd)); replace V0 := Lib.hid (V0.out.kept hd); replace VB := Lib.hid (VB.out.kept hd); replace hgs := Nat.le_trans hgs hd.size; replace hb := hb.trans (hd.mono hb.size); clear hd))
          clear hf
          generalize wq = wa at *
          go_wp2_with fail
          refine (HAC.out m _ (by omega)).mono ?_
          rintro e wq ⟨rfl, hd⟩
          replace HO := Lib.hid (own_below HO.out hd)
          (try replace HX := Lib.hid (own_below HX.out hd))
          replace V0 := Lib.hid (V0.out.kept hd)
          replace VB := Lib.hid (VB.out.kept hd)
          have hgz := Nat.le_trans hgs hd.size
          clear hgs
          have hgs := hgz
          clear hgz
          replace hb := hb.trans (hd.mono hb.size)
          clear hd
          have hd : Below wq.heap.size wq (wq.alloc (.cells #[.int .i64 (r + m), .int .i64 c] 52)) := (Below.refl _ _).alloc (Nat.le_refl _) _
          replace HO := Lib.hid (own_below HO.out hd)
          (try replace HX := Lib.hid (own_below HX.out hd))
          replace V0 := Lib.hid (V0.out.kept hd)
          replace VB := Lib.hid (VB.out.kept hd)
          have hgz := Nat.le_trans hgs hd.size
          clear hgs
          have hgs := hgz
          clear hgz
          replace hb := hb.trans (hd.mono hb.size)
          clear hd
          have b0 := VB.out.cell (i := 0) rfl
          have b1 := VB.out.cell (i := 1) rfl
          have b2 := VB.out.cell (i := 2) rfl
          go_wp2_with fail
          clear b0 b1 b2
          refine (HCE.out m _).mono ?_
          rintro e wb ⟨rfl, hd⟩
          replace HO := Lib.hid (own_below HO.out hd)
          (try replace HX := Lib.hid (own_below HX.out hd))
          replace V0 := Lib.hid (V0.out.kept hd)
          replace VB := Lib.hid (VB.out.kept hd)
          have hgz := Nat.le_trans hgs hd.size
          clear hgs
          have hgs := hgz
          clear hgz
          replace hb := hb.trans (hd.mono hb.size)
          clear hd
          generalize f m = x at *
          have hd : Below wb.heap.size wb (wb.alloc (.cells #[.int .u8 (x.toNat : Int)] 5)) := (Below.refl _ _).alloc (Nat.le_refl _) _
          have KN := Lib.hid (new_byte wb x 5)
          replace HO := Lib.hid (own_below HO.out hd)
          (try replace HX := Lib.hid (own_below HX.out hd))
          replace V0 := Lib.hid (V0.out.kept hd)
          replace VB := Lib.hid (VB.out.kept hd)
          have hgz := Nat.le_trans hgs hd.size
          clear hgs
          have hgs := hgz
          clear hgz
          replace hb := hb.trans (hd.mono hb.size)
          clear hd
          go_wp2_with (at_builtin; go_must (refine wpList_append_lies _ rfl (.tmp 56) (.tmp 63) 70 rfl (w.heap.size + 2) 5 i0 _ 1 1 Tryd.underlying70 hi0 hi1 hi2 hi3 rfl (by decide) v k (pre.flatMap U8.enc) (by rfl) HO.out ⟨wb.heap.size, 0, none⟩ 1 1 (U8.enc x) (by rfl) rfl KN.out (u8_one1 x) (by decide) ?c1 ?c2 ?c3 _ rfl ?_))
          case c1 => unfold maxLen; omega
          case c2 => omega
          case c3 => (first | omega | (simp only [World.size_alloc]; omega))
          intro g7 cap7 w7 hown hgr hwh hlt7
          have hb7 := hb.grown hgr hb.size (fun q e => by have := (HO.out.lt q e).1; omega)
          have HO7 : Hid (w7.ownsRow (w.heap.size + 2) 5 1 (.slice (some ⟨g7, 0, none⟩) (k + 1) cap7) (k + 1) ((pre ++ [x]).flatMap U8.enc)) := Lib.hid (by rw [snoc_flat U8.enc]; exact hown)
          have V7 := Lib.hid (V0.out.grown hgr (own_ne HO.out (by omega)))
          have VB7 := Lib.hid (VB.out.grown hgr (own_ne HO.out (by omega)))
          have HX7 := Lib.hid (HX.out.kept hgr hne)
          have hne7 : v1.ownBlock = none ∨ v1.ownBlock ≠ (Value.slice (some ⟨g7, 0, none⟩) (k + 1) cap7).ownBlock := by
            rcases hwh with h | h
            · rw [h] at hne; exact hne
            · cases hv : v1.ownBlock with
              | none => exact .inl rfl
              | some q =>
                have h1 := hlt1 q hv
                refine .inr (fun e => ?_)
                have e2 : q = g7 := by simpa [Value.ownBlock] using e
                rw [h] at e2
                (first | omega | (simp only [World.size_alloc] at hgs; omega))
          have hlt7' : ∀ q, v1.ownBlock = some q → q < w7.heap.size := fun q hq => Nat.lt_of_lt_of_le (hlt1 q hq) (Nat.le_trans hgs hgr.size)
          clear hown hgr hwh KN HO hb V0 VB HX hne
          go_wp2
          go_roundw
          case rel => exact ⟨pre ++ [x], k + 1, m + 1, _, by simp [hpl], by omega, by omega, by go_num, rfl, HP2, hne7, hlt7', HO7, HX7, V7, VB7, hb7⟩
          case measure => simp [intOf]; omega
        | false =>
          have HPE : Hid (pre = runI f 16 1) := Lib.hid (by
            have h := HP.out
            rw [runI_stop hf, List.append_nil] at h
            exact h)
          clear HP
          go_upto_region 9 with fail
          have hd : Below wr.heap.size wr wr.drew := (Below.refl _ _).drew
          have hgs : wr.heap.size ≤ wr.heap.size := Nat.le_refl _
          replace HO := Lib.hid (own_below HO.out hd)
          (try replace HX := Lib.hid (own_below HX.out hd))
          replace V0 := Lib.hid (V0.out.kept hd)
          replace VB := Lib.hid (VB.out.kept hd)
          have hgz := Nat.le_trans hgs hd.size
          clear hgs
          have hgs := hgz
          clear hgz
          replace hb := hb.trans (hd.mono hb.size)
          clear hd
          go_region_held3 (fun w' => w'.cell? ⟨w.heap.size, 0, none⟩ = some (.int .i64 sz) ∧ w'.cell? ⟨w.heap.size, 1, none⟩ = some (.string pr) ∧ w'.cell? ⟨w.heap.size, 2, none⟩ = some (.string ce))
            (exact ⟨VB.out.cell (i := 0) rfl, VB.out.cell (i := 1) rfl, VB.out.cell (i := 2) rfl⟩)
            (((first | (go_at_call 134; refine (HAC.out m _ (by omega)).mono ?_; rintro e wq ⟨rfl, hd⟩) | (go_at_call 24; refine (HON.out m _).mono ?_; rintro e wq ⟨rfl, hd⟩; rw [hf])); replace HO := Lib.hid (own_below HO.out hd); (try replace HX := Lib.hid (own_below HX.out hd)); replace V0 := Lib.hid (V0.out.kept hd); replace VB := Lib.hid (VB.out.kept hd); replace hgs := Nat.le_trans hgs hd.size; replace hb := hb.trans (hd.mono hb.size); clear hd))
          clear hf
          generalize wq = wa at *
          have hl1 := Lib.hid hpl1
          have hl2 := Lib.hid hpl
          have hU : Hid ((mkB pre1).size ≤ 1048576) := Lib.hid (by rw [mkB_size]; omega)
          have hB : Hid ((bk (mkB pre1)).size ≤ 1048576 ∧ ∀ x ∈ (bk (mkB pre1)).data.toList, x.toNat < 128) := Lib.hid (by
            obtain ⟨h1, h2⟩ := HBL.out (mkB pre1)
            refine ⟨by rw [h1, mkB_size]; omega, fun x hx => ?_⟩
            have := h2 x hx
            rw [mkB_data, HPE1.out] at this
            exact HPD.out x this)
          have hD : Hid ((mkB pre).size ≤ 1048576 ∧ ∀ x ∈ (mkB pre).data.toList, x.toNat < 128) := Lib.hid (by
            refine ⟨by rw [mkB_size]; omega, fun x hx => ?_⟩
            rw [mkB_data, HPE.out] at hx
            exact HPI.out x hx)
          clear HAC HON HCE HIN HPD HPI HBL VB hlt1 hne
          go_upto_region 13 with fail
          have hk : Below wa.heap.size wa wa.drew := (Below.refl _ _).drew
          replace HO := Lib.hid (own_below HO.out hk)
          replace HX := Lib.hid (own_below HX.out hk)
          replace V0 := Lib.hid (V0.out.kept hk)
          replace hb := hb.trans (hk.mono hb.size)
          clear hk
          have v1c := own_bytes_any HX.out hl1.out.symm
          have v2c := own_bytes_any HO.out hl2.out.symm
          have q0 := V0.out.cell (i := 0) rfl
          have q1 := V0.out.cell (i := 1) rfl
          have p0 := V0.out.free 0
          have p1 := V0.out.free 1
          go_region_with
            ((first | (go_at_call 46; refine (HSM.out _ _ (by first | exact hB.out.1 | exact hD.out.1) (by first | exact hB.out.2 | exact hD.out.2)).mono ?_) | (go_at_call 47; refine (HBK.out _ _ hU.out).mono ?_)); rintro e wq ⟨rfl, hdq⟩; replace HO := Lib.hid (own_below HO.out hdq); replace HX := Lib.hid (own_below HX.out hdq); replace V0 := Lib.hid (V0.out.kept hdq); replace hb := hb.trans (hdq.mono hb.size); clear hdq v1c v2c q0 q1 p0 p1; have v1c := own_bytes_any HX.out hl1.out.symm; have v2c := own_bytes_any HO.out hl2.out.symm; have q0 := V0.out.cell (i := 0) rfl; have q1 := V0.out.cell (i := 1) rfl; have p0 := V0.out.free 0; have p1 := V0.out.free 1)
          all_goals
            obtain ⟨o0, k0⟩ := V0.out.set 0 (.string (sm (bk (mkB pre1))))
            obtain ⟨o1, k9⟩ := o0.set 1 (.string (sm (mkB pre)))
            have GG := grownBy_trans k0 k9
            have hb9 := hb.grown GG hb.size (fun q h => by cases h; omega)
            have e0 := o1.cell (i := 0) (v := .string (sm (bk (mkB pre1)))) rfl
            have e1 := o1.cell (i := 1) (v := .string (sm (mkB pre))) rfl
            clear o0 o1 k0 k9 GG v1c v2c
            go_wp2
            refine bodyPost_ret (v := .agg #[.string (sm (bk (mkB pre1))), .string (sm (mkB pre))]) (by simp [results, Tryd.results25, go_sem, e0, e1]) rfl ?_
            exact ⟨by rw [HPE1.out, HPE.out], hb9⟩
theorem around_any (b : Brd) (n : Nat) (r c : Int) (down : Bool) (w : World) (hb0 : b.Good n) (hi : b.inB r c = true) :
    Calls Tryd.prog 25 #[.agg #[.int .i64 b.size, .string b.premium, .string b.cells], .int .i64 r, .int .i64 c, .bool down] w fun e w' => e = .returned (aroundS b r c down) ∧ Below w.heap.size w w' := by
  cases down
  · exact iaround_across b n r c w hb0 hi
  · exact iaround_down b n r c w hb0 hi
end Go.Proofs.YtoeoijkhlpacdaaDoor
