/- Contract: the program's CheckNoFill. For words and numbers that fit an int. -/
import Derived.Test.YtjknpmdmchlfcaaGrM
import Derived.Test.YtjknpmdmchlfcaaGrN
namespace Go.Proofs.Ytjknpmdmchlfcaa
open Go.ChangeShapes Go.WideShapes Go.ChangeAt Go.RowKit Go.Sort

set_option maxRecDepth 100000 in
set_option maxHeartbeats 8000000 in
theorem CheckNoFill_any (R C : Int) (gs : ByteArray) (ws : List ByteArray) (wa : Option Addr) (wcp : Nat) (P : List Int) (pa : Option Addr) (pc : Nat) (w : World) (hs : gs.size ≤ 9223372036854775807)
    (hw : SliceAt w 1 Tx.enc wa ws) (hl : ws.length ≤ 9223372036854775807) (hf : WordsFit ws) (hp : SliceAt w 1 I64.enc pa P) (hpl : P.length ≤ pc) (hpm : pc ≤ 4611686018427387904) :
    Calls Try.prog 12 #[.agg #[.int .i64 R, .int .i64 C, .string gs], .agg #[.slice wa ws.length wcp], .slice pa P.length pc] w fun e w' => e = .returned (.bool (noFill R C gs ws P)) ∧ Below w.heap.size w w' := by
  obtain ⟨w2, hw2⟩ : ∃ w2, w2 = (w.alloc (.cells #[.int .i64 R, .int .i64 C, .string gs] 31)).alloc (.cells #[.slice wa ws.length wcp] 33) := ⟨_, rfl⟩
  have hb : Below w.heap.size w w2 := by rw [hw2]; exact ((Below.refl _ _).alloc (Nat.le_refl _) _).alloc (by simp) _
  have VG : Hid (VarAt w2 w.heap.size 31 [.int .i64 R, .int .i64 C, .string gs]) := by
    rw [hw2]
    exact Lib.hid ((VarAt.new w 31 [.int .i64 R, .int .i64 C, .string gs]).kept ((Below.refl _ _).alloc (Nat.le_refl _) _))
  have VL : Hid (VarAt w2 (w.heap.size + 1) 33 [.slice wa ws.length wcp]) := by
    rw [hw2]
    have := VarAt.new (w.alloc (.cells #[.int .i64 R, .int .i64 C, .string gs] 31)) 33 [.slice wa ws.length wcp]
    simp only [World.size_alloc] at this
    exact Lib.hid this
  have HW := Lib.hid (hw.kept hb)
  have HP := Lib.hid (hp.kept hb)
  have HW2 := Lib.hid hw2
  have g0 := VG.out.cell (i := 0) rfl
  have g1 := VG.out.cell (i := 1) rfl
  have g2 := VG.out.cell (i := 2) rfl
  have l0 := VL.out.cell (i := 0) rfl
  clear hw hp hw2
  cases hok : gridOk R C gs with
  | false =>
    have HN := Lib.hid (noFill_g (ws := ws) (P := P) hok)
    have HA : Hid (Calls Try.prog 32 #[.agg #[.int .i64 R, .int .i64 C, .string gs]] w2 fun e w' => e = .returned (.bool false) ∧ Below w2.heap.size w2 w') := Lib.hid (by have := ValidGrid_any R C gs w2 hs; rwa [hok] at this)
    go_enter Try.func12, Try.ntmps12
    go_upto_region 1 with fail
    rw [← HW2.out]
    clear HW2 HW HP hok hf
    go_wp2_with fail
    refine HA.out.mono ?_
    rintro e w3 ⟨rfl, hdd⟩
    clear HA g0 g1 g2 l0 VG VL
    go_wp2
    go_ret
    exact ⟨ret_bool HN.out.symm, hb.trans (hdd.mono hb.size)⟩
  | true =>
    obtain ⟨r, c, rfl, rfl, hr, hc, hz⟩ := grid_parts hok
    have HA : Hid (Calls Try.prog 32 #[.agg #[.int .i64 r, .int .i64 c, .string gs]] w2 fun e w' => e = .returned (.bool true) ∧ Below w2.heap.size w2 w') := Lib.hid (by have := ValidGrid_any r c gs w2 hs; rwa [hok] at this)
    cases hlx : lexOk ws with
    | false =>
      have HN := Lib.hid (noFill_l (R := r) (C := c) (s := gs) (P := P) hlx)
      have HB : Hid (∀ W, Below w2.heap.size w2 W → Calls Try.prog 33 #[.agg #[.slice wa ws.length wcp]] W fun e w' => e = .returned (.bool false) ∧ Below W.heap.size W w') := Lib.hid (fun W h => by have := ValidLexicon_any ws wa wcp W (HW.out.kept h) hl hf; rwa [hlx] at this)
      go_enter Try.func12, Try.ntmps12
      go_upto_region 1 with fail
      rw [← HW2.out]
      clear HW2 HP hok hf hlx
      go_wp2_with fail
      refine HA.out.mono ?_
      rintro e w3 ⟨rfl, hdd⟩
      replace l0 := cell_kept l0 hdd
      clear HA g0 g1 g2 VG VL HW
      go_wp2_with fail
      refine (HB.out _ hdd).mono ?_
      rintro e w4 ⟨rfl, hd4⟩
      clear HB l0
      go_wp2
      go_ret
      exact ⟨ret_bool HN.out.symm, hb.trans ((hdd.trans (hd4.mono hdd.size)).mono hb.size)⟩
    | true =>
      have HB : Hid (∀ W, Below w2.heap.size w2 W → Calls Try.prog 33 #[.agg #[.slice wa ws.length wcp]] W fun e w' => e = .returned (.bool true) ∧ Below W.heap.size W w') := Lib.hid (fun W h => by have := ValidLexicon_any ws wa wcp W (HW.out.kept h) hl hf; rwa [hlx] at this)
      by_cases h5 : P.length ≤ 5000
      · have HSL : Hid (∀ W, Calls Try.prog 35 #[.agg #[.int .i64 r, .int .i64 c, .string gs]] W (SlotsPost W (slots r c gs.data.toList))) := Lib.hid (fun W => slots_any r c gs W hr hc hz)
        have HSN := Lib.hid (slots_len (L := gs.data.toList) hr hc)
        have HCK : Hid (∀ sa sc W, SliceAt W 1 Tx.enc wa ws → SliceAt W 4 Slt.enc sa (slots r c gs.data.toList) → SliceAt W 1 I64.enc pa P → Calls Try.prog 34 #[.agg #[.int .i64 r, .int .i64 c, .string gs], .agg #[.slice wa ws.length wcp], .slice sa (slots r c gs.data.toList).length sc, .slice pa P.length pc] W (ChkPost (chk c (slots r c gs.data.toList) ws P.length gs.data.toList P) W)) :=
          Lib.hid (fun sa sc W h1 h2 h3 => check_any r c _ ws wa wcp sa sc hr hc slots_in (Nat.le_trans HSN.out (by omega)) (lex_words hlx).2 hf (lex_words hlx).1 P.length gs P pa pc W hz (Nat.le_refl _) hpl hpm h1 h2 h3)
        have HN := Lib.hid (noFill_in hok hlx h5)
        generalize slots r c gs.data.toList = S at *
        generalize chk c S ws P.length gs.data.toList P = o at *
        have hwl := (lex_words hlx).2
        go_enter Try.func12, Try.ntmps12
        go_upto_region 1 with fail
        rw [← HW2.out]
        clear HW2 hok hf hlx hs
        go_wp2_with fail
        refine HA.out.mono ?_
        rintro e w3 ⟨rfl, hdd⟩
        replace l0 := cell_kept l0 hdd
        clear HA g0 g1 g2
        go_wp2_with fail
        refine (HB.out _ hdd).mono ?_
        rintro e w4 ⟨rfl, hd⟩
        have hd4 := hdd.trans (hd.mono hdd.size)
        replace VG := Lib.hid (VG.out.kept hd4)
        replace VL := Lib.hid (VL.out.kept hd4)
        replace HW := Lib.hid (HW.out.kept hd4)
        replace HP := Lib.hid (HP.out.kept hd4)
        replace hb := hb.trans (hd4.mono hb.size)
        clear HB hd hdd hd4 l0
        have g0 := VG.out.cell (i := 0) rfl
        have g1 := VG.out.cell (i := 1) rfl
        have g2 := VG.out.cell (i := 2) rfl
        have l0 := VL.out.cell (i := 0) rfl
        go_upto_region 3 with fail
        clear g0 g1 g2 l0
        have hk : Below w4.heap.size w4 w4.drew := (Below.refl _ _).drew
        have kg := Lib.hid (VG.out.kept hk)
        have kl := Lib.hid (VL.out.kept hk)
        go_region_held3 (fun w' => w'.cell? ⟨w.heap.size, 0, none⟩ = some (.int .i64 r) ∧ w'.cell? ⟨w.heap.size, 1, none⟩ = some (.int .i64 c) ∧ w'.cell? ⟨w.heap.size, 2, none⟩ = some (.string gs) ∧ w'.cell? ⟨w.heap.size + 1, 0, none⟩ = some (.slice wa ws.length wcp))
          (exact ⟨kg.out.cell (i := 0) rfl, kg.out.cell (i := 1) rfl, kg.out.cell (i := 2) rfl, kl.out.cell (i := 0) rfl⟩)
          ((first
            | (go_at_call 35; refine (HSL.out _).mono ?_; rintro e wq ⟨gq, cq, rfl, hoq, hdq⟩; have HSS := Lib.hid (own_slice Slt.enc_len hoq rfl); replace kg := Lib.hid (kg.out.kept hdq); replace kl := Lib.hid (kl.out.kept hdq); replace hk := hk.trans (hdq.mono hk.size); clear hoq hdq)
            | (go_at_call 34; refine (HCK.out _ _ _ (HW.out.kept hk) HSS.out (HP.out.kept hk)).mono ?_; rintro e wq ⟨a5, cap5, rfl, sl5, l5, m5, hdq⟩; replace kg := Lib.hid (kg.out.kept hdq); replace kl := Lib.hid (kl.out.kept hdq); replace hk := hk.trans (hdq.mono hk.size); clear hdq sl5 HSS)))
        all_goals
          replace hb := hb.trans (hk.mono hb.size)
          clear hk kg kl VG VL HW HP HSL HCK
          cases o with
          | none =>
            simp only [Option.getD_none, Option.isSome_none, List.length_nil]
            go_wp2
            go_ret
            exact ⟨ret_bool (by rw [HN.out]; rfl), hb⟩
          | some rr =>
            simp only [Option.getD_some, Option.isSome_some] at l5 ⊢
            cases rr with
            | nil =>
              simp only [List.length_nil]
              go_wp2
              go_ret
              exact ⟨ret_bool (by rw [HN.out]; rfl), hb⟩
            | cons x xs =>
              have hx0 : ((x :: xs).length : Int) ≠ 0 := by simp; omega
              generalize hxl : (x :: xs).length = n at *
              go_wp2
              go_ret
              exact ⟨ret_bool (by rw [HN.out, beq_eq_false_iff_ne.2 hx0]; rfl), hb⟩
      · have HN := Lib.hid (noFill_p (R := r) (C := c) (s := gs) (ws := ws) h5)
        go_enter Try.func12, Try.ntmps12
        go_upto_region 1 with fail
        rw [← HW2.out]
        clear HW2 HP hok hf hlx hs
        go_wp2_with fail
        refine HA.out.mono ?_
        rintro e w3 ⟨rfl, hdd⟩
        replace l0 := cell_kept l0 hdd
        clear HA g0 g1 g2 VG VL HW
        go_wp2_with fail
        refine (HB.out _ hdd).mono ?_
        rintro e w4 ⟨rfl, hd4⟩
        clear HB l0
        go_wp2
        go_ret
        exact ⟨ret_bool HN.out.symm, hb.trans ((hdd.trans (hd4.mono hdd.size)).mono hb.size)⟩
end Go.Proofs.Ytjknpmdmchlfcaa
