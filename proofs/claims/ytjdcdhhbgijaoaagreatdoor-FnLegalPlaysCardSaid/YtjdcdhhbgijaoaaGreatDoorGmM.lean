/- Contracts: the reference's board after a play. For valid boards and plays. -/
import Derived.Test.YtjdcdhhbgijaoaaGreatDoorPlbH
import Derived.Test.YtjdcdhhbgijaoaaGreatDoorPlaD
namespace Go.Proofs.YtjdcdhhbgijaoaaGreatDoor
open Go.ChangeShapes Go.WideShapes Go.ChangeAt Go.RowKit Go.Sort

/-! ### Plain: the board after a play is found on the turned board too -/
theorem mkB_ext {a b : List UInt8} (h : a = b) : mkB a = mkB b := by rw [h]
theorem bytes_ext {s t : ByteArray} (h : s.data.toList = t.data.toList) : s = t := ByteArray.ext (Array.toList_inj.1 h)
theorem sq_ext {n : Nat} {a b : List UInt8} (ha : a.length = n * n) (hb : b.length = n * n) (h : ∀ r c, r < n → c < n → a.getD (r * n + c) 0 = b.getD (r * n + c) 0) : a = b := by
  apply List.ext_getElem (by rw [ha, hb])
  intro m hm hm2
  have hn : 0 < n := by
    rcases Nat.eq_zero_or_pos n with e | e
    · subst e; omega
    · exact e
  have h1 : m / n < n := Nat.div_lt_of_lt_mul (by rw [← ha]; exact hm)
  have h2 : m % n < n := Nat.mod_lt _ hn
  have h3 := h (m / n) (m % n) h1 h2
  have e : m / n * n + m % n = m := by rw [Nat.mul_comm]; exact Nat.div_add_mod m n
  rw [e, u8get hm, u8get hm2] at h3
  exact h3
where u8get {l : List UInt8} {j : Nat} (h : j < l.length) : l.getD j 0 = l[j] := by simp [h]
theorem set_getD (l : List UInt8) (i m : Nat) (x : UInt8) : (l.set i x).getD m 0 = if i = m then (if i < l.length then x else 0) else l.getD m 0 := by
  rw [List.getD_eq_getElem?_getD, List.getElem?_set, List.getD_eq_getElem?_getD]
  by_cases e : i = m
  · rw [if_pos e, if_pos e]
    by_cases h : i < l.length
    · rw [if_pos h, if_pos h]; rfl
    · rw [if_neg h, if_neg h]; rfl
  · rw [if_neg e, if_neg e]
theorem turned_idx {p : Ply} (hd : p.down = true) (n k : Nat) : p.turn.idx n k = (p.sc k * n + p.sr k).toNat := by
  unfold Ply.idx Ply.sr Ply.sc Ply.turn
  simp [hd]
theorem madeK_turn {b : Brd} {p : Ply} {n : Nat} (h : PGood b p n) (hd : p.down = true) (L L2 : List UInt8) (hl : L.length = n * n) (hl2 : L2.length = n * n) (h0 : ∀ r c, r < n → c < n → L2.getD (c * n + r) 0 = L.getD (r * n + c) 0) :
    ∀ k, k ≤ p.word.size → ∀ r c, r < n → c < n → (madeK n p.turn L2 k).getD (c * n + r) 0 = (madeK n p L k).getD (r * n + c) 0
  | 0, _, r, c, hr, hc => h0 r c hr hc
  | k + 1, hk, r, c, hr, hc => by
    obtain ⟨i, j, e1, e2, l1, l2, e3, _⟩ := h.idx_lt (show k < p.word.size by omega)
    have e4 : p.turn.idx n k = j * n + i := by
      rw [turned_idx hd, e1, e2, ← Int.natCast_mul, ← Int.natCast_add, Int.toNat_natCast]
    rw [madeK, madeK, e3, e4, set_getD, set_getD, madeK_len, madeK_len, hl, hl2]
    have ih := madeK_turn h hd L L2 hl hl2 h0 k (by omega) r c hr hc
    by_cases e : i = r ∧ j = c
    · obtain ⟨rfl, rfl⟩ := e
      rw [if_pos rfl, if_pos rfl, if_pos (row_ltn hc hr), if_pos (row_ltn hr hc)]
      rfl
    · have n1 : ¬ i * n + j = r * n + c := fun x => e (mul_inj l2 hc x)
      have n2 : ¬ j * n + i = c * n + r := fun x => e (by have := mul_inj l1 hr x; exact ⟨this.2, this.1⟩)
      rw [if_neg n1, if_neg n2]
      exact ih
theorem made_turn {b : Brd} {p : Ply} {n : Nat} (h : PGood b p n) (hd : p.down = true) : (b.turn.made p.turn).turn = b.made p := by
  have hbt : b.size.toNat = n := by rw [h.good.size]; simp
  have hlc : b.cells.data.toList.length = n * n := by have := h.good.cells; simpa using this
  have hlp : b.premium.data.toList.length = n * n := by have := h.good.prem; simpa using this
  unfold Brd.made Brd.turn
  simp only [hbt, mkB_data]
  congr 1
  · refine bytes_ext ?_
    rw [mkB_data]
    refine sq_ext (turnB_len _ _) hlp fun r c hr hc => ?_
    rw [turnB_get hr hc, turnB_get hc hr]
  · refine mkB_ext (sq_ext (turnB_len _ _) (by rw [madeK_len]; exact hlc) fun r c hr hc => ?_)
    rw [turnB_get hr hc]
    exact madeK_turn h hd b.cells.data.toList (turnB n b.cells.data.toList) hlc (turnB_len _ _) (fun r c hr hc => turnB_get hc hr) _ (Nat.le_refl _) r c hr hc
theorem made_flat_down {b : Brd} {p : Ply} {n : Nat} (h : PGood b p n) (hd : p.down = true) : ((b.flat p.down).made p.flat).turn = b.made p := by
  have e1 : b.flat p.down = b.turn := by unfold Brd.flat; rw [hd]; rfl
  have e2 : p.flat = p.turn := by unfold Ply.flat; rw [hd]; rfl
  rw [e1, e2]
  exact made_turn h hd
theorem made_flat_across {b : Brd} {p : Ply} (hd : p.down = false) : (b.flat p.down).made p.flat = b.made p := by
  have e1 : b.flat p.down = b := by unfold Brd.flat; rw [hd]; rfl
  have e2 : p.flat = p := by unfold Ply.flat; rw [hd]; rfl
  rw [e1, e2]
theorem flat_idx {b : Brd} {p : Ply} {n : Nat} (h : PGood b p n) : ∃ R C : Nat, p.flat.row = R ∧ p.flat.col = C ∧ R < n ∧ C + p.word.size ≤ n ∧ ∀ k, k < p.word.size → p.flat.idx n k = R * n + C + k ∧ R * n + C + k < n * n := by
  have r0 := h.r0
  have r1 := h.r1
  have c0 := h.c0
  have c1 := h.c1
  obtain ⟨R, hR⟩ := Int.eq_ofNat_of_zero_le r0
  obtain ⟨C, hC⟩ := Int.eq_ofNat_of_zero_le c0
  have fd : p.flat.down = false := by
    unfold Ply.flat
    cases hd : p.down with
    | false => simp [hd]
    | true => simp [Ply.turn, hd]
  refine ⟨R, C, by rw [Ply.flat_row, hR], by rw [Ply.flat_col, hC], by omega, by omega, fun k hk => ⟨?_, ?_⟩⟩
  · unfold Ply.idx Ply.sr Ply.sc
    rw [fd, Ply.flat_row, Ply.flat_col, hR, hC]
    simp only [Bool.false_eq_true, if_false]
    have : (R : Int) * (n : Int) + ((C : Int) + (k : Int)) = ((R * n + C + k : Nat) : Int) := by push_cast; omega
    rw [this, Int.toNat_natCast]
  · have h1 : C + k < n := by omega
    have := row_ltn (show R < n by omega) h1
    omega
set_option maxRecDepth 100000 in
set_option maxHeartbeats 8000000 in
theorem l12Make_any (b : Brd) (p : Ply) (n g o : Nat) (w : World) (hg : BAt w g o b) (hp : PGood b p n) :
    Calls Tryz.prog 120 #[.pointer (some ⟨g, o, none⟩), .agg #[.int .i64 p.row, .int .i64 p.col, .bool p.down, .string p.word]] w fun e w' => e = .returned (.agg #[.int .i64 (b.made p).size, .string (b.made p).premium, .string (b.made p).cells]) ∧ Below w.heap.size w w' := by
  have hlt := hg.lt
  have hn15 := hp.good.hi
  have hs12 := hp.twelve
  have hgf := hp.good.flat p.down
  have hfn := hgf.size
  have hft : (b.flat p.down).size.toNat = n := by rw [hfn]; simp
  have hfc := hgf.cells
  have hnn : n * n ≤ 225 := sq_mono hn15
  have HGD := Lib.hid hp.good
  obtain ⟨R, C, hR, hC, hR1, hC1, hix⟩ := flat_idx hp
  obtain ⟨w2, hw2⟩ : ∃ w2, w2 = (w.alloc (.cells #[.int .i64 p.row, .int .i64 p.col, .bool p.down, .string p.word] 30)).alloc (.cells #[.int .i64 0, .string ⟨#[]⟩, .string ⟨#[]⟩] 25) := ⟨_, rfl⟩
  have hb : Below w.heap.size w w2 := by rw [hw2]; exact ((Below.refl _ _).alloc (Nat.le_refl _) _).alloc (by simp) _
  have VP : Hid (VarAt w2 w.heap.size 30 [.int .i64 p.row, .int .i64 p.col, .bool p.down, .string p.word]) := by
    rw [hw2]
    exact Lib.hid ((VarAt.new w 30 [.int .i64 p.row, .int .i64 p.col, .bool p.down, .string p.word]).kept ((Below.refl _ _).alloc (Nat.le_refl _) _))
  have VR : Hid (VarAt w2 (w.heap.size + 1) 25 [.int .i64 0, .string ⟨#[]⟩, .string ⟨#[]⟩]) := by
    rw [hw2]
    have := VarAt.new (w.alloc (.cells #[.int .i64 p.row, .int .i64 p.col, .bool p.down, .string p.word] 30)) 25 [.int .i64 0, .string ⟨#[]⟩, .string ⟨#[]⟩]
    simp only [World.size_alloc] at this
    exact Lib.hid this
  have HG := Lib.hid (hg.kept hb)
  have HW2 := Lib.hid hw2
  clear hw2 hg
  have hmd : (b.flat p.down).made p.flat = ⟨(b.flat p.down).size, (b.flat p.down).premium, mkB (madeK n p.flat (b.flat p.down).cells.data.toList p.word.size)⟩ := by
    unfold Brd.made
    rw [hft, Ply.flat_word]
  have HDN : Hid (p.down = true → (⟨(b.flat p.down).size, (b.flat p.down).premium, mkB (madeK n p.flat (b.flat p.down).cells.data.toList p.word.size)⟩ : Brd).turn = b.made p) := Lib.hid (fun h => by rw [← hmd]; exact made_flat_down hp h)
  have HAC : Hid (p.down = false → (⟨(b.flat p.down).size, (b.flat p.down).premium, mkB (madeK n p.flat (b.flat p.down).cells.data.toList p.word.size)⟩ : Brd) = b.made p) := Lib.hid (fun h => by rw [← hmd]; exact made_flat_across h)
  have HMG : Hid ((⟨(b.flat p.down).size, (b.flat p.down).premium, mkB (madeK n p.flat (b.flat p.down).cells.data.toList p.word.size)⟩ : Brd).Good n) := Lib.hid (by
    refine ⟨hgf.size, hgf.lo, hgf.hi, hgf.prem, ?_, hgf.okP, ?_⟩
    · show (mkB _).size = _
      rw [mkB_size, madeK_len]
      have := hgf.cells
      simpa using this
    · unfold allC
      show (mkB _).data.toList.all _ = true
      rw [mkB_data]
      refine madeK_all hgf.okC _ (by rw [Ply.flat_word]; exact Nat.le_refl _) ?_
      rw [Ply.flat_word, List.all_eq_true]
      intro x hx
      have := List.all_eq_true.1 hp.letters x hx
      unfold letB at this
      unfold cellB
      rw [Bool.or_assoc, this, Bool.or_true])
  have HLN := Lib.hid (madeK_len n p.flat (b.flat p.down).cells.data.toList)
  have HSC : Hid (∀ k, madeK n p.flat (b.flat p.down).cells.data.toList (k + 1) = (madeK n p.flat (b.flat p.down).cells.data.toList k).set (p.flat.idx n k) (p.word.data.toList.getD k 0)) := Lib.hid (fun k => by rw [madeK, Ply.flat_word])
  have HM0 : Hid (madeK n p.flat (b.flat p.down).cells.data.toList 0 = (b.flat p.down).cells.data.toList) := Lib.hid rfl
  have HFL : Hid (∀ W, BAt W g o b → Calls Tryz.prog 91 #[.pointer (some ⟨g, o, none⟩), .agg #[.int .i64 p.row, .int .i64 p.col, .bool p.down, .string p.word]] W fun e w' => e = .returned (flatV b p) ∧ Below W.heap.size W w') := Lib.hid (fun W h => l12Flat_any b p n g o W HGD.out h)
  have HTP : Hid (∀ (c : Brd) x W, c.Good n → BAt W x 0 c → Calls Tryz.prog 186 #[.pointer (some ⟨x, 0, none⟩)] W fun e w' => e = .returned (.agg #[.int .i64 c.turn.size, .string c.turn.premium, .string c.turn.cells]) ∧ Below W.heap.size W w') := Lib.hid (fun c x W h1 h2 => l11Transpose_any c n x 0 W h1 h2)
  have HIX := Lib.hid hix
  have HCL : Hid ((b.flat p.down).cells.data.toList.length = (b.flat p.down).cells.size) := Lib.hid (by simp)
  clear hp hgf hmd hix HGD hft
  generalize b.made p = res at *
  unfold flatV at HFL
  rw [hfn] at HFL HDN HAC HMG
  clear hfn
  generalize (b.flat p.down).premium = fp at *
  generalize (b.flat p.down).cells = fc at *
  rw [hR, hC] at HFL
  generalize p.flat.down = fd at *
  generalize hmk : madeK n p.flat fc.data.toList = mk at *
  have HFC := Lib.hid hfc
  clear hmk hfc
  go_enter Tryz.func120, Tryz.ntmps120
  go_upto_region 1 with fail
  rw [← HW2.out]
  clear HW2
  have p0 := VP.out.cell (i := 0) rfl
  have p1 := VP.out.cell (i := 1) rfl
  have p2 := VP.out.cell (i := 2) rfl
  have p3 := VP.out.cell (i := 3) rfl
  go_wp2_with fail
  refine (HFL.out _ HG.out).mono ?_
  rintro e w3 ⟨rfl, hd⟩
  have hz2 := VR.out.lt
  clear p0 p1 p2 p3 HG HFL
  replace hb := hb.trans (hd.mono hb.size)
  replace VP := Lib.hid (VP.out.kept hd)
  replace VR := Lib.hid (VR.out.kept hd)
  clear hd
  have hz3 := VR.out.lt
  have HF : Hid (VarAt ((w3.alloc (.cells #[.int .i64 n, .string fp, .string fc] 25)).alloc (.cells #[.int .i64 R, .int .i64 C, .bool fd, .string p.word] 30)) w3.heap.size 25 [.int .i64 n, .string fp, .string fc]) := Lib.hid ((VarAt.new w3 25 [.int .i64 n, .string fp, .string fc]).kept ((Below.refl _ _).alloc (Nat.le_refl _) _))
  have HQ : Hid (VarAt ((w3.alloc (.cells #[.int .i64 n, .string fp, .string fc] 25)).alloc (.cells #[.int .i64 R, .int .i64 C, .bool fd, .string p.word] 30)) (w3.heap.size + 1) 30 [.int .i64 R, .int .i64 C, .bool fd, .string p.word]) := Lib.hid (by
    have := VarAt.new (w3.alloc (.cells #[.int .i64 n, .string fp, .string fc] 25)) 30 [.int .i64 R, .int .i64 C, .bool fd, .string p.word]
    simp only [World.size_alloc] at this
    exact this)
  have hd : Below w3.heap.size w3 ((w3.alloc (.cells #[.int .i64 n, .string fp, .string fc] 25)).alloc (.cells #[.int .i64 R, .int .i64 C, .bool fd, .string p.word] 30)) := ((Below.refl _ _).alloc (Nat.le_refl _) _).alloc (by simp) _
  replace hb := hb.trans (hd.mono hb.size)
  replace VP := Lib.hid (VP.out.kept hd)
  replace VR := Lib.hid (VR.out.kept hd)
  clear hd
  go_upto_region 2 with fail
  have hz5 : w3.heap.size + 1 < ((w3.alloc (.cells #[.int .i64 n, .string fp, .string fc] 25)).alloc (.cells #[.int .i64 R, .int .i64 C, .bool fd, .string p.word] 30)).heap.size := by simp
  generalize (w3.alloc (.cells #[.int .i64 n, .string fp, .string fc] 25)).alloc (.cells #[.int .i64 R, .int .i64 C, .bool fd, .string p.word] 30) = w5 at *
  generalize w3.heap.size = B at *
  obtain ⟨cp, w6, hcp, hcv, hr, hd⟩ := bytes_of fc w5
  have HR : Hid (RowB w6 w5.heap.size (mk 0)) := Lib.hid (by rw [HM0.out]; exact hr)
  have f2 := HF.out.cell (i := 2) rfl
  clear hr HM0
  go_upto_region 4 with fail
  clear hcv f2
  replace hb := hb.trans (hd.mono hb.size)
  replace VP := Lib.hid (VP.out.kept hd)
  replace VR := Lib.hid (VR.out.kept hd)
  replace HF := Lib.hid (HF.out.kept hd)
  replace HQ := Lib.hid (HQ.out.kept hd)
  clear hd
  generalize w5.heap.size = G at *
  go_loopw [8] (fun iv wr => ∃ k : Nat, k ≤ p.word.size ∧ iv = .int .i64 k ∧ Hid (RowB wr G (mk k)) ∧ Hid (VarAt wr B 25 [.int .i64 n, .string fp, .string fc]) ∧ Hid (VarAt wr (B + 1) 30 [.int .i64 R, .int .i64 C, .bool fd, .string p.word]) ∧ Hid (VarAt wr w.heap.size 30 [.int .i64 p.row, .int .i64 p.col, .bool p.down, .string p.word]) ∧ Hid (VarAt wr (w.heap.size + 1) 25 [.int .i64 0, .string ⟨#[]⟩, .string ⟨#[]⟩]) ∧ Below w.heap.size w wr) (fun iv _ => p.word.size - (intOf iv).toNat)
  case atStart => exact ⟨0, Nat.zero_le _, rfl, HR, HF, HQ, VP, VR, hb⟩
  case round =>
    clear HR HF HQ VP VR hb
    obtain ⟨k, hk, rfl, HR, HF, HQ, VP, VR, hb⟩ := hrel
    have q3 := HQ.out.cell (i := 3) rfl
    by_cases hkl : k < p.word.size
    · obtain ⟨e3, hin⟩ := HIX.out k hkl
      have HT : Hid (mk (k + 1) = (mk k).set (R * n + C + k) p.word[k]) := Lib.hid (by rw [HSC.out, e3, getD_byt hkl])
      have HPL := Lib.hid (HLN.out k)
      clear e3
      go_upto_region 6 with fail
      have hcz := HFC.out
      have hd : Below wr.heap.size wr wr.drew := (Below.refl _ _).drew
      replace HR := Lib.hid (HR.out.kept hd)
      clear q3
      replace hb := hb.trans (hd.mono hb.size)
      replace HF := Lib.hid (HF.out.kept hd)
      replace HQ := Lib.hid (HQ.out.kept hd)
      replace VP := Lib.hid (VP.out.kept hd)
      replace VR := Lib.hid (VR.out.kept hd)
      clear hd
      have q0 := HQ.out.cell (i := 0) rfl
      have q1 := HQ.out.cell (i := 1) rfl
      have q3 := HQ.out.cell (i := 3) rfl
      have f0 := HF.out.cell (i := 0) rfl
      obtain ⟨q, hq⟩ : ∃ q, q = R * n := ⟨_, rfl⟩
      have hqi : (R : Int) * (n : Int) = (q : Int) := by rw [hq]; push_cast; rfl
      rw [← hq] at HT hin
      have wr1 : IntKind.i64.wrap (q : Int) = q := IntWalk.i64_in _ (by omega)
      have wr2 : IntKind.i64.wrap ((q : Int) + (C : Int)) = (q : Int) + C := IntWalk.i64_in _ (by omega)
      have wr3 : IntKind.i64.wrap ((q : Int) + (C : Int) + (k : Int)) = (q : Int) + C + k := IntWalk.i64_in _ (by omega)
      have wr4 : ((q : Int) + (C : Int) + (k : Int)).toNat = q + C + k := by omega
      have wr5 : (0 : Int) ≤ (q : Int) + (C : Int) + (k : Int) := by omega
      have wr6 : (q : Int) + (C : Int) + (k : Int) < (fc.size : Int) := by omega
      have hmx : q + C + k < (mk k).length := by rw [HPL.out, HCL.out]; omega
      have st := HR.out.cell (i := q + C + k) hmx
      have sf := HR.out.free (i := q + C + k) hmx
      clear hq hcz
      refine wp_region_still_tail 16 (by kernel_rfl) (by kernel_rfl) ?_
      simp only [List.take_succ_cons, List.take_zero, List.drop_succ_cons, List.drop_zero]
      change wpStill _ _ wr.drew (fun a' => wpList _ _ _ _ a' wr.drew) _ _
      generalize wr.drew = wd at *
      repeat still_step
      refine wpStill_nil ?_
      obtain ⟨h9, k9⟩ := HR.out.set (q + C + k) p.word[k]
      have HR9 := Lib.hid (h9.as HT.out.symm)
      have HF9 := Lib.hid (HF.out.grown k9 (by simp; omega))
      have HQ9 := Lib.hid (HQ.out.grown k9 (by simp; omega))
      have VP9 := Lib.hid (VP.out.grown k9 (by simp; omega))
      have VR9 := Lib.hid (VR.out.grown k9 (by simp; omega))
      have hb9 := hb.grown k9 hb.size (fun q h => by cases h; omega)
      clear h9 k9 HR HF HQ VP VR hb q0 q1 q3 f0 wr1 wr2 wr3
      go_wp2
      go_roundw
      case rel => exact ⟨k + 1, by omega, by go_num, HR9, HF9, HQ9, VP9, VR9, hb9⟩
      case measure => simp [intOf]; omega
    · obtain rfl : k = p.word.size := by omega
      have hcv := HR.out.str (n := fc.size) (cap := cp) (by rw [HLN.out, HCL.out])
      have f0 := HF.out.cell (i := 0) rfl
      have f1 := HF.out.cell (i := 1) rfl
      generalize mkB (mk p.word.size) = sm at *
      have HX : Hid (BAt (wr.alloc (.cells #[.int .i64 n, .string fp, .string sm] 25)) wr.heap.size 0 (⟨n, fp, sm⟩ : Brd)) := Lib.hid (BAt.new wr ⟨n, fp, sm⟩ 25)
      have hd : Below wr.heap.size wr (wr.alloc (.cells #[.int .i64 n, .string fp, .string sm] 25)) := (Below.refl _ _).alloc (Nat.le_refl _) _
      clear HR HF HQ
      replace hb := hb.trans (hd.mono hb.size)
      replace VP := Lib.hid (VP.out.kept hd)
      replace VR := Lib.hid (VR.out.kept hd)
      clear hd
      go_upto_region 8 with fail
      clear hcv f0 f1 q3
      generalize wr.alloc (.cells #[.int .i64 n, .string fp, .string sm] 25) = w7 at *
      generalize wr.heap.size = X at *
      have p2 := VP.out.cell (i := 2) rfl
      cases hdn : p.down with
      | false =>
        have hre := HAC.out hdn
        subst hre
        obtain ⟨x0, x1, x2⟩ := HX.out
        rw [hdn] at p2
        have t0 := VR.out.cell (i := 0) rfl
        have t1 := VR.out.cell (i := 1) rfl
        have t2 := VR.out.cell (i := 2) rfl
        have u0 := VR.out.free 0
        have u1 := VR.out.free 1
        have u2 := VR.out.free 2
        obtain ⟨o0, k0⟩ := VR.out.set 0 (.int .i64 n)
        obtain ⟨o1, k1⟩ := o0.set 1 (.string fp)
        obtain ⟨o2, k2⟩ := o1.set 2 (.string sm)
        have GG := grownBy_trans (grownBy_trans k0 k1) k2
        have hb9 := hb.grown GG hb.size (fun q h => by cases h; omega)
        have e0 := o2.cell (i := 0) (v := .int .i64 n) rfl
        have e1 := o2.cell (i := 1) (v := .string fp) rfl
        have e2 := o2.cell (i := 2) (v := .string sm) rfl
        clear o0 o1 o2 k0 k1 k2 GG
        go_wp2
        refine bodyPost_ret (v := .agg #[.int .i64 n, .string fp, .string sm]) (by simp [results, Tryz.results120, go_sem, e0, e1, e2]) rfl ?_
        exact ⟨rfl, hb9⟩
      | true =>
        have HTX : Hid (∀ W, BAt W X 0 (⟨n, fp, sm⟩ : Brd) → Calls Tryz.prog 186 #[.pointer (some ⟨X, 0, none⟩)] W fun e w' => e = .returned (.agg #[.int .i64 res.size, .string res.premium, .string res.cells]) ∧ Below W.heap.size W w') := Lib.hid (fun W h => by
          have := HTP.out _ X W HMG.out h
          rw [HDN.out hdn] at this
          exact this)
        rw [hdn] at p2
        obtain ⟨rn, rp, rc⟩ := res
        simp only at HTX
        go_wp2_with fail
        refine (HTX.out _ HX.out).mono ?_
        rintro e w8 ⟨rfl, hd⟩
        clear p2
        replace hb := hb.trans (hd.mono hb.size)
        replace VR := Lib.hid (VR.out.kept hd)
        clear hd
        have t0 := VR.out.cell (i := 0) rfl
        have t1 := VR.out.cell (i := 1) rfl
        have t2 := VR.out.cell (i := 2) rfl
        have u0 := VR.out.free 0
        have u1 := VR.out.free 1
        have u2 := VR.out.free 2
        obtain ⟨o0, k0⟩ := VR.out.set 0 (.int .i64 rn)
        obtain ⟨o1, k1⟩ := o0.set 1 (.string rp)
        obtain ⟨o2, k2⟩ := o1.set 2 (.string rc)
        have GG := grownBy_trans (grownBy_trans k0 k1) k2
        have hb9 := hb.grown GG hb.size (fun q h => by cases h; omega)
        have e0 := o2.cell (i := 0) (v := .int .i64 rn) rfl
        have e1 := o2.cell (i := 1) (v := .string rp) rfl
        have e2 := o2.cell (i := 2) (v := .string rc) rfl
        clear o0 o1 o2 k0 k1 k2 GG
        go_wp2
        refine bodyPost_ret (v := .agg #[.int .i64 rn, .string rp, .string rc]) (by simp [results, Tryz.results120, go_sem, e0, e1, e2]) rfl ?_
        exact ⟨rfl, hb9⟩
end Go.Proofs.YtjdcdhhbgijaoaaGreatDoor
