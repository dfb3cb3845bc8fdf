/- What CheckNoFill answers, in plain words; contract: the reference's CheckNoFill. For words and numbers that fit an int. -/
import Derived.Test.YtjknpmdmchlfcaaGrG
import Derived.Test.YtjknpmdmchlfcaaGrI
namespace Go.Proofs.Ytjknpmdmchlfcaa
open Go.ChangeShapes Go.WideShapes Go.ChangeAt Go.RowKit Go.Sort

/-- CheckNoFill in plain words -/
def noFill (R C : Int) (s : ByteArray) (ws : List ByteArray) (P : List Int) : Bool :=
  gridOk R C s && lexOk ws && decide (P.length ≤ 5000) && (chk C.toNat (slots R.toNat C.toNat s.data.toList) ws P.length s.data.toList P == some [])
theorem noFill_g {R C : Int} {s : ByteArray} {ws : List ByteArray} {P : List Int} (h : gridOk R C s = false) : noFill R C s ws P = false := by unfold noFill; rw [h]; rfl
theorem noFill_l {R C : Int} {s : ByteArray} {ws : List ByteArray} {P : List Int} (h : lexOk ws = false) : noFill R C s ws P = false := by unfold noFill; rw [h]; simp
theorem noFill_p {R C : Int} {s : ByteArray} {ws : List ByteArray} {P : List Int} (h : ¬ P.length ≤ 5000) : noFill R C s ws P = false := by unfold noFill; rw [decide_eq_false h]; simp
theorem noFill_in {r c : Nat} {s : ByteArray} {ws : List ByteArray} {P : List Int} (h1 : gridOk r c s = true) (h2 : lexOk ws = true) (h3 : P.length ≤ 5000) : noFill r c s ws P = (chk c (slots r c s.data.toList) ws P.length s.data.toList P == some []) := by
  unfold noFill
  rw [h1, h2, decide_eq_true h3, Int.toNat_natCast, Int.toNat_natCast]
  rfl
theorem grid_parts {R C : Int} {s : ByteArray} (h : gridOk R C s = true) : ∃ r c : Nat, R = r ∧ C = c ∧ r ≤ 5 ∧ c ≤ 5 ∧ s.size = r * c := by
  have h0 := h
  cases h1 : withinB R 1 5 with
  | false => rw [grid_r h1] at h; cases h
  | true =>
    cases h2 : withinB C 1 5 with
    | false => rw [grid_c h2] at h; cases h
    | true =>
      obtain ⟨r, rfl, r1, r2⟩ := within_nat (by omega) h1
      obtain ⟨c, rfl, c1, c2⟩ := within_nat (by omega) h2
      refine ⟨r, c, rfl, rfl, by omega, by omega, ?_⟩
      by_cases h3 : (s.size : Int) = (r : Int) * (c : Int)
      · exact_mod_cast h3
      · rw [grid_s h3] at h; cases h
theorem small_ascii {c : UInt8} (h : smallB (c.toNat : Int) = true) : c.toNat < 128 := by
  unfold smallB at h
  simp at h
  omega
theorem lex_words {ws : List ByteArray} (h : lexOk ws = true) : (∀ x ∈ ws, Ascii x) ∧ ws.length ≤ 200 := by
  have h2 := h
  rw [lex_split] at h2
  simp only [Bool.and_eq_true, decide_eq_true_eq] at h2
  refine ⟨fun x hx k hk => ?_, h2.1.1⟩
  obtain ⟨i, hi, rfl⟩ := List.getElem_of_mem hx
  have h3 := List.all_eq_true.1 h2.2 i (List.mem_range.2 hi)
  rw [getD_at hi] at h3
  unfold longL wordL at h3
  simp only [Bool.and_eq_true] at h3
  have h4 := List.all_eq_true.1 h3.2.2 ((ws[i])[k]) (by
    rw [show (ws[i])[k] = (ws[i]).data.toList[k]'(by simpa using hk) from by simp; rfl]
    exact List.getElem_mem _)
  exact small_ascii h4
theorem slots_len {R C : Nat} {L : List UInt8} (hR : R ≤ 5) (hC : C ≤ 5) : (slots R C L).length ≤ 60 := by
  rw [slots_eq, List.length_append, List.length_map]
  have h1 := across_len R C L
  have h2 := across_len C R (turnL R C L)
  have h3 : R * (C + 1) ≤ 5 * 6 := Nat.mul_le_mul hR (by omega)
  have h4 : C * (R + 1) ≤ 5 * 6 := Nat.mul_le_mul hC (by omega)
  omega
set_option maxRecDepth 100000 in
set_option maxHeartbeats 8000000 in
theorem specCheckNoFill_any (R C : Int) (gs : ByteArray) (ws : List ByteArray) (wa : Option Addr) (wcp : Nat) (P : List Int) (pa : Option Addr) (pc : Nat) (w : World) (hs : gs.size ≤ 9223372036854775807) (hR : -9223372036854775808 ≤ R ∧ R ≤ 9223372036854775807) (hC : -9223372036854775808 ≤ C ∧ C ≤ 9223372036854775807)
    (hw : SliceAt w 1 Tx.enc wa ws) (hl : ws.length ≤ 9223372036854775807) (hf : WordsFit ws) (hp : SliceAt w 1 I64.enc pa P) (hpl : P.length ≤ pc) (hpm : pc ≤ 4611686018427387904) :
    Calls Try.prog 8 #[.agg #[.int .i64 R, .int .i64 C, .string gs], .agg #[.slice wa ws.length wcp], .slice pa P.length pc] w fun e w' => e = .returned (.bool (noFill R C gs ws P)) ∧ Below w.heap.size w w' := by
  obtain ⟨w2, hw2⟩ : ∃ w2, w2 = (w.alloc (.cells #[.int .i64 R, .int .i64 C, .string gs] 31)).alloc (.cells #[.slice wa ws.length wcp] 33) := ⟨_, rfl⟩
  have hb : Below w.heap.size w w2 := by rw [hw2]; exact ((Below.refl _ _).alloc (Nat.le_refl _) _).alloc (by simp) _
  have HG : Hid (GAt w2 w.heap.size 0 R C gs) := by
    rw [hw2]
    exact Lib.hid ((GAt.new w R C gs 31).kept ((Below.refl _ _).alloc (Nat.le_refl _) _))
  have hc1 : w2.cell? ⟨w.heap.size + 1, 0, none⟩ = some (.slice wa ws.length wcp) := by
    rw [hw2]
    have := cell_new0 (w.alloc (.cells #[.int .i64 R, .int .i64 C, .string gs] 31)) #[.slice wa ws.length wcp] 33 (i := 0) (v := .slice wa ws.length wcp) rfl
    simpa only [World.size_alloc] using this
  have HW := Lib.hid (hw.kept hb)
  have HP := Lib.hid (hp.kept hb)
  have HW2 := Lib.hid hw2
  clear hw hp hw2
  cases hok : gridOk R C gs with
  | false =>
    have HN := Lib.hid (noFill_g (ws := ws) (P := P) hok)
    have HA : Hid (Calls Try.prog 27 #[.pointer (some ⟨w.heap.size, 0, none⟩)] w2 fun e w' => e = .returned (.bool false) ∧ Drew w2 w') := Lib.hid (by have := l25Ok_any R C gs _ 0 w2 HG.out hs hR hC; rwa [hok] at this)
    go_enter Try.func8, Try.ntmps8
    go_upto_region 1 with fail
    rw [← HW2.out]
    clear HW2 HG hc1 HW HP hok hf
    go_wp2_with fail
    refine HA.out.mono ?_
    rintro e w3 ⟨rfl, hd⟩
    have hdd := hd.bel
    clear HA hd
    go_wp2
    go_ret
    exact ⟨ret_bool HN.out.symm, hb.trans (hdd.mono hb.size)⟩
  | true =>
    obtain ⟨r, c, rfl, rfl, hr, hc, hz⟩ := grid_parts hok
    have HA : Hid (Calls Try.prog 27 #[.pointer (some ⟨w.heap.size, 0, none⟩)] w2 fun e w' => e = .returned (.bool true) ∧ Drew w2 w') := Lib.hid (by have := l25Ok_any r c gs _ 0 w2 HG.out hs hR hC; rwa [hok] at this)
    cases hlx : lexOk ws with
    | false =>
      have HN := Lib.hid (noFill_l (R := r) (C := c) (s := gs) (P := P) hlx)
      have HB : Hid (∀ W, Below w2.heap.size w2 W → Calls Try.prog 28 #[.pointer (some ⟨w.heap.size + 1, 0, none⟩)] W fun e w' => e = .returned (.bool false) ∧ Drew W w') := Lib.hid (fun W h => by have := l05Ok_any ws _ 0 wa wcp W (cell_kept hc1 h) (HW.out.kept h) hl hf; rwa [hlx] at this)
      go_enter Try.func8, Try.ntmps8
      go_upto_region 1 with fail
      rw [← HW2.out]
      clear HW2 HG hc1 HW HP hok hf hlx
      go_wp2_with fail
      refine HA.out.mono ?_
      rintro e w3 ⟨rfl, hd⟩
      have hdd := hd.bel
      clear HA hd
      go_wp2_with fail
      refine (HB.out _ hdd).mono ?_
      rintro e w4 ⟨rfl, hd⟩
      have hd4 := hd.bel
      clear HB hd
      go_wp2
      go_ret
      exact ⟨ret_bool HN.out.symm, hb.trans ((hdd.trans (hd4.mono hdd.size)).mono hb.size)⟩
    | true =>
      have HB : Hid (∀ W, Below w2.heap.size w2 W → Calls Try.prog 28 #[.pointer (some ⟨w.heap.size + 1, 0, none⟩)] W fun e w' => e = .returned (.bool true) ∧ Drew W w') := Lib.hid (fun W h => by have := l05Ok_any ws _ 0 wa wcp W (cell_kept hc1 h) (HW.out.kept h) hl hf; rwa [hlx] at this)
      by_cases h5 : P.length ≤ 5000
      · have HSL : Hid (∀ W, GAt W w.heap.size 0 r c gs → Calls Try.prog 30 #[.pointer (some ⟨w.heap.size, 0, none⟩)] W (SlotsPost W (slots r c gs.data.toList))) := Lib.hid (fun W h => l25Slots_any r c gs _ 0 W h hr hc hz)
        have HSN := Lib.hid (slots_len (L := gs.data.toList) hr hc)
        have HCK : Hid (∀ sb sa sc W, SrchAt W sb wa sa wcp sc ws (slots r c gs.data.toList) → GAt W w.heap.size 0 r c gs → SliceAt W 1 I64.enc pa P → Calls Try.prog 29 #[.pointer (some ⟨sb, 0, none⟩), .pointer (some ⟨w.heap.size, 0, none⟩), .slice pa P.length pc] W (ChkPost (chk c (slots r c gs.data.toList) ws P.length gs.data.toList P) W)) :=
          Lib.hid (fun sb sa sc W h1 h2 h3 => l25Check_any r c _ ws wa sa wcp sc sb hr hc slots_in (Nat.le_trans HSN.out (by omega)) (lex_words hlx).2 hf P.length gs P w.heap.size 0 pa pc W hz (Nat.le_refl _) hpl hpm h1 h2 h3)
        have HN := Lib.hid (noFill_in hok hlx h5)
        generalize slots r c gs.data.toList = S at *
        generalize chk c S ws P.length gs.data.toList P = o at *
        have hwl := (lex_words hlx).2
        go_enter Try.func8, Try.ntmps8
        go_upto_region 1 with fail
        rw [← HW2.out]
        clear HW2 hok hf hlx hs hR hC
        go_wp2_with fail
        refine HA.out.mono ?_
        rintro e w3 ⟨rfl, hd⟩
        have hdd := hd.bel
        clear HA hd
        go_wp2_with fail
        refine (HB.out _ hdd).mono ?_
        rintro e w4 ⟨rfl, hd⟩
        have hd4 := hdd.trans (hd.bel.mono hdd.size)
        replace HG := Lib.hid (HG.out.kept hd4)
        replace HW := Lib.hid (HW.out.kept hd4)
        replace HP := Lib.hid (HP.out.kept hd4)
        replace hc1 := cell_kept hc1 hd4
        replace hb := hb.trans (hd4.mono hb.size)
        clear HB hd hdd hd4
        go_upto_region 3 with fail
        have hk : Below w4.heap.size w4 w4.drew := (Below.refl _ _).drew
        have k_1 : w4.drew.cell? ⟨w.heap.size + 1, 0, none⟩ = some (.slice wa ws.length wcp) := hc1
        go_region_held3 (fun w' => w'.cell? ⟨w.heap.size + 1, 0, none⟩ = some (.slice wa ws.length wcp))
          (first | exact k_1 | exact cell_alloc k_1 _)
          ((first
            | (go_at_call 30; refine (HSL.out _ (HG.out.kept hk)).mono ?_; rintro e wq ⟨gq, cq, rfl, hoq, hdq⟩; have HSS := Lib.hid (own_slice Slt.enc_len hoq rfl); replace k_1 := cell_kept k_1 hdq; replace hk := hk.trans (hdq.mono hk.size); clear hoq hdq)
            | (go_at_call 29; (first | refine calls_new_drew ?_ | refine calls_new ?_); intro wz hxz hnz hoz; have nb0 := hnz.1 0 _ rfl; have nb1 := hnz.1 1 _ rfl; replace HSS := Lib.hid (HSS.out.kept hxz); replace k_1 := cell_kept k_1 hxz; replace hk := hk.trans (hxz.mono hk.size); clear hxz hnz hoz; refine (HCK.out _ _ _ _ ⟨nb0, nb1, HW.out.kept hk, HSS.out⟩ (HG.out.kept hk) (HP.out.kept hk)).mono ?_; rintro e wq ⟨a5, cap5, rfl, sl5, l5, m5, hdq⟩; replace k_1 := cell_kept k_1 hdq; replace hk := hk.trans (hdq.mono hk.size); clear hdq nb0 nb1 sl5 HSS)))
        all_goals
          replace hb := hb.trans (hk.mono hb.size)
          clear hk k_1 hc1 HG HW HP HSL HCK
          cases o with
          | none =>
            simp only [Option.getD_none, Option.isSome_none, List.length_nil]
            go_wp2
            go_ret
            exact ⟨ret_bool (by rw [HN.out]; rfl), hb⟩
          | some rr =>
            simp only [Option.getD_some, Option.isSome_some] at l5 ⊢
            cases rr with
            | nil =>
              simp only [List.length_nil]
              go_wp2
              go_ret
              exact ⟨ret_bool (by rw [HN.out]; rfl), hb⟩
            | cons x xs =>
              have hx0 : ((x :: xs).length : Int) ≠ 0 := by simp; omega
              generalize hxl : (x :: xs).length = n at *
              go_wp2
              go_ret
              exact ⟨ret_bool (by rw [HN.out, beq_eq_false_iff_ne.2 hx0]; rfl), hb⟩
      · have HN := Lib.hid (noFill_p (R := r) (C := c) (s := gs) (ws := ws) h5)
        go_enter Try.func8, Try.ntmps8
        go_upto_region 1 with fail
        rw [← HW2.out]
        clear HW2 HG hc1 HW HP hok hf hlx hs hR hC
        go_wp2_with fail
        refine HA.out.mono ?_
        rintro e w3 ⟨rfl, hd⟩
        have hdd := hd.bel
        clear HA hd
        go_wp2_with fail
        refine (HB.out _ hdd).mono ?_
        rintro e w4 ⟨rfl, hd⟩
        have hd4 := hd.bel
        clear HB hd
        go_wp2
        go_ret
        exact ⟨ret_bool HN.out.symm, hb.trans ((hdd.trans (hd4.mono hdd.size)).mono hb.size)⟩
end Go.Proofs.Ytjknpmdmchlfcaa
