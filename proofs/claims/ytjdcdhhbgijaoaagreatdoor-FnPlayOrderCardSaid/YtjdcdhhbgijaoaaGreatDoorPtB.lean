/- Contracts: the texts of plays: the program. Go's tables (CEnv) and the table of powers of ten (Tab) hold what is laid. -/
import Derived.Test.YtjdcdhhbgijaoaaGreatDoorPtA
import Derived.Test.YtjdcdhhbgijaoaaGreatDoorDoA
import Derived.Test.YtjdcdhhbgijaoaaGreatDoorPlbB
import Derived.Laws.Runes
import Derived.ChangeKeysEq
namespace Go.Proofs.YtjdcdhhbgijaoaaGreatDoor
open Go.ChangeShapes Go.WideShapes Go.ChangeAt Go.RowKit Go.Sort

theorem enc_one (c : UInt8) (h : c.toNat < 128) : Utf8.encode (c.toNat : Int) = mkB [c] := by
  have hv : Utf8.valid (c.toNat : Int) = true := by
    unfold Utf8.valid
    simp
    omega
  unfold Utf8.encode
  rw [hv]
  simp only [if_true, Int.toNat_natCast]
  rw [if_pos h]
  simp [mkB]
theorem text_no {p : Ply} (h : p.plain = false) : playText p = ⟨#[]⟩ := by unfold playText; rw [h]; rfl
theorem text_yes {p : Ply} (h : p.plain = true) : playText p = mkB p.text := by unfold playText; rw [h, if_pos rfl]
set_option maxRecDepth 100000 in
set_option maxHeartbeats 2000000 in
theorem PlayText_any (p : Ply) (w : World) (hs : p.word.size ≤ 1048576) (hE : CEnv w) (hT : Tab w) :
    Calls Tryz.prog 56 #[.agg #[.int .i64 p.row, .int .i64 p.col, .bool p.down, .string p.word]] w fun e w' => e = .returned (.string (playText p)) ∧ Below w.heap.size w w' := by
  have HP : Hid (p.plain = (withinB p.row 0 14 && (withinB p.col 0 14 && mainL p.word.data.toList))) := Lib.hid rfl
  have HE := Lib.hid hE
  have HTb := Lib.hid hT
  clear hE hT
  have hb : Below w.heap.size w (w.alloc (.cells #[.int .i64 p.row, .int .i64 p.col, .bool p.down, .string p.word] 30)) := (Below.refl _ _).alloc (Nat.le_refl _) _
  have VP := Lib.hid (VarAt.new w 30 [.int .i64 p.row, .int .i64 p.col, .bool p.down, .string p.word])
  go_enter Tryz.func56, Tryz.ntmps56
  go_upto_region 1 with fail
  generalize w.alloc (.cells #[.int .i64 p.row, .int .i64 p.col, .bool p.down, .string p.word] 30) = w1 at *
  have c0 := VP.out.cell (i := 0) rfl
  have c1 := VP.out.cell (i := 1) rfl
  have c2 := VP.out.cell (i := 2) rfl
  have c3 := VP.out.cell (i := 3) rfl
  go_wp2_with fail
  refine (within_any p.row 0 14 _).mono ?_
  rintro e w3 ⟨rfl, rfl⟩
  cases h1 : withinB p.row 0 14 with
  | false =>
    go_wp2
    go_ret
    exact ⟨congrArg (fun z => Ending.returned (.string z)) (text_no (by rw [HP.out, h1]; rfl)).symm, hb⟩
  | true =>
    go_wp2_with fail
    refine (within_any p.col 0 14 _).mono ?_
    rintro e w4 ⟨rfl, rfl⟩
    cases h2 : withinB p.col 0 14 with
    | false =>
      go_wp2
      go_ret
      exact ⟨congrArg (fun z => Ending.returned (.string z)) (text_no (by rw [HP.out, h1, h2]; rfl)).symm, hb⟩
    | true =>
      go_wp2_with fail
      refine (isMain_any p.word _ hs (HE.out.kept hb)).mono ?_
      rintro e w5 ⟨rfl, hd⟩
      clear c0 c1 c2 c3
      replace VP := Lib.hid (VP.out.kept hd)
      replace hb := hb.trans (hd.mono hb.size)
      clear hd
      cases h3 : mainL p.word.data.toList with
      | false =>
        go_wp2
        go_ret
        exact ⟨congrArg (fun z => Ending.returned (.string z)) (text_no (by rw [HP.out, h1, h2, h3]; rfl)).symm, hb⟩
      | true =>
        have hp : p.plain = true := by rw [HP.out, h1, h2, h3]; rfl
        obtain ⟨⟨r0, r1⟩, ⟨k0, k1⟩, _⟩ := plain_iff.1 hp
        have hi := itoa_short (n := p.row + 1) (by omega) (by omega)
        have hc := colC_int ⟨k0, k1⟩
        have HEN : Hid (Utf8.encode ((colC p.col).toNat : Int) = mkB [colC p.col]) := Lib.hid (enc_one _ (by omega))
        have wr : IntKind.i64.wrap (p.row + 1) = p.row + 1 := IntWalk.i64_in _ (by omega)
        have wc : IntKind.i64.wrap (97 + p.col) = ((colC p.col).toNat : Int) := by rw [hc]; exact IntWalk.i64_in _ (by omega)
        have wu : IntKind.i32.wrap ((colC p.col).toNat : Int) = ((colC p.col).toNat : Int) := IntWalk.i32_in _ (by omega)
        have HD : Hid (∀ W : World, Tab W → Calls Tryz.prog 138 #[.int .i64 (p.row + 1)] W fun e w' => e = .returned (.string (mkB (Lib.itoa (p.row + 1)))) ∧ Below W.heap.size W w') := Lib.hid (fun W h => Decimal_any (p.row + 1) (by omega) (by omega) W h)
        have hz1 : (mkB (Lib.itoa (p.row + 1))).size ≤ 3 := by rw [mkB_size]; exact hi
        have hz2 : (mkB [colC p.col]).size ≤ 1 := by rw [mkB_size]; exact Nat.le_refl _
        have HT1 := Lib.hid (text_down (p := p))
        have HT2 := Lib.hid (text_across (p := p))
        have HTY := Lib.hid (text_yes hp)
        have hen := HEN.out
        have HTE := Lib.hid (HTb.out.kept hb)
        generalize mkB (Lib.itoa (p.row + 1)) = rw0 at *
        generalize hcc : colC p.col = cc at *
        clear hp hi hcc hc HEN HP h1 h2 h3 HE HTb
        go_upto_region 3 with fail
        have c0 := VP.out.cell (i := 0) rfl
        have c1 := VP.out.cell (i := 1) rfl
        have e0 := cell_regrown c0
        have e1 := cell_regrown c1
        refine wp_region_quiet_below (by kernel_rfl) (by kernel_rfl) ?_
        repeat (go_big_quiet_step ((go_at_call 138; exact Calls.regrown_of (HD.out _ (HTE.out.kept (below_regrown _ _ _))))))
        refine wpQuiet_nil ?_
        intro wx hw'
        have hd := below_of_ex hw'
        clear hw' e0 e1 c0 c1 HD HTE hen wr wc wu
        replace VP := Lib.hid (VP.out.kept hd)
        replace hb := hb.trans (hd.mono hb.size)
        clear hd
        generalize mkB [cc] = cs at *
        have c2 := VP.out.cell (i := 2) rfl
        have c3 := VP.out.cell (i := 3) rfl
        cases hdn : p.down with
        | true =>
          have HT := Lib.hid (HT1.out hdn)
          rw [hdn] at c2
          have s1 : cs.size + rw0.size ≤ 9223372036854775807 := by omega
          have s2 : cs.size + rw0.size + 1 ≤ 9223372036854775807 := by omega
          have s3 : cs.size + rw0.size + 1 + p.word.size ≤ 9223372036854775807 := by omega
          clear HT1 HT2 hdn
          go_wp2
          go_ret
          exact ⟨congrArg (fun z => Ending.returned (.string z)) (HT.out.trans HTY.out.symm), hb⟩
        | false =>
          have HT := Lib.hid (HT2.out hdn)
          rw [hdn] at c2
          have s1 : rw0.size + cs.size ≤ 9223372036854775807 := by omega
          have s2 : rw0.size + cs.size + 1 ≤ 9223372036854775807 := by omega
          have s3 : rw0.size + cs.size + 1 + p.word.size ≤ 9223372036854775807 := by omega
          clear HT1 HT2 hdn
          go_wp2
          go_ret
          exact ⟨congrArg (fun z => Ending.returned (.string z)) (HT.out.trans HTY.out.symm), hb⟩
end Go.Proofs.YtjdcdhhbgijaoaaGreatDoor
