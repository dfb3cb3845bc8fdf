/- The statement FnExactCheckNoFill: the program's CheckNoFill gives what the reference's gives. For every grid, lexicon and proof. -/
import Derived.Test.YtjknpmdmchlfcaaGrO
import Derived.Test.YtjknpmdmchlfcaaTLx
import Derived.Test.YtjknpmdmchlfcaaBox
namespace Go.Proofs.Ytjknpmdmchlfcaa
open Go.ChangeShapes Go.WideShapes Go.ChangeAt Go.RowKit Go.Sort

set_option maxRecDepth 100000 in
set_option maxHeartbeats 8000000 in
theorem lawCheckNoFill_any (R C : Int) (gs : ByteArray) (ws : List ByteArray) (P : List Int) (a pa : Option Addr) (cap pcap : Nat) (w : World) (hs : gs.size ≤ 9223372036854775807) (hR : -9223372036854775808 ≤ R ∧ R ≤ 9223372036854775807) (hC : -9223372036854775808 ≤ C ∧ C ≤ 9223372036854775807)
    (hm : SliceAt w 1 Tx.enc a ws) (hp : SliceAt w 1 I64.enc pa P) (hl : ws.length ≤ 9223372036854775807) (hpl : P.length ≤ 9223372036854775807) (hf : WordsFit ws) :
    Calls Try.prog 3 #[.agg #[.int .i64 R, .int .i64 C, .string gs], .agg #[.slice a ws.length cap], .slice pa P.length pcap] w fun e w' => e = .returned (.bool true) ∧ Below w.heap.size w w' := by
  have HF := Lib.hid hf; clear hf
  obtain ⟨w2, hw2⟩ : ∃ w2, w2 = (w.alloc (.cells #[.int .i64 R, .int .i64 C, .string gs] 23)).alloc (.cells #[.slice a ws.length cap] 26) := ⟨_, rfl⟩
  have hb : Below w.heap.size w w2 := by rw [hw2]; exact ((Below.refl _ _).alloc (Nat.le_refl _) _).alloc (by simp) _
  have VG : Hid (VarAt w2 w.heap.size 23 [.int .i64 R, .int .i64 C, .string gs]) := by
    rw [hw2]
    exact Lib.hid ((VarAt.new w 23 [.int .i64 R, .int .i64 C, .string gs]).kept ((Below.refl _ _).alloc (Nat.le_refl _) _))
  have VL : Hid (VarAt w2 (w.heap.size + 1) 26 [.slice a ws.length cap]) := by
    rw [hw2]
    have := VarAt.new (w.alloc (.cells #[.int .i64 R, .int .i64 C, .string gs] 23)) 26 [.slice a ws.length cap]
    simp only [World.size_alloc] at this
    exact Lib.hid this
  have SA := Lib.hid (hm.kept hb)
  have SP := Lib.hid (hp.kept hb)
  have HW2 := Lib.hid hw2
  have g0 := VG.out.cell (i := 0) rfl
  have g1 := VG.out.cell (i := 1) rfl
  have g2 := VG.out.cell (i := 2) rfl
  clear hm hp hw2
  by_cases hpp : P.length ≤ 1048576
  case neg =>
    clear SA SP VG VL g0 g1 g2
    go_enter Try.func3, Try.ntmps3
    go_upto_region 1 with fail
    rw [← HW2.out]
    clear HW2
    go_wp2
    go_ret
    exact ⟨rfl, hb⟩
  case pos =>
    go_enter Try.func3, Try.ntmps3
    go_upto_region 1 with fail
    rw [← HW2.out]
    clear HW2
    go_wp2_with fail
    refine (szGrid_any R C gs 1048576 _ (by omega) (by omega) hs).mono ?_
    rintro e w3 ⟨l1, rfl, h2, hd⟩
    replace hb := hb.trans (hd.mono hb.size)
    replace g0 := cell_kept g0 hd
    replace g1 := cell_kept g1 hd
    replace g2 := cell_kept g2 hd
    replace SA := Lib.hid (SA.out.kept hd)
    replace SP := Lib.hid (SP.out.kept hd)
    replace VG := Lib.hid (VG.out.kept hd)
    replace VL := Lib.hid (VL.out.kept hd)
    clear hd
    rcases h2 with rfl | ⟨h20, h2⟩
    · go_wp2
      go_ret
      exact ⟨rfl, hb⟩
    have h3 : ¬ l1 < 0 := by omega
    have h4 : l1 ≤ 1048576 := by omega
    clear h2
    have l0 := VL.out.cell (i := 0) rfl
    go_wp2_with fail
    refine (szLexicon_any ws a cap l1 _ SA.out hl HF.out h20 h4).mono ?_
    rintro e w4 ⟨l2, rfl, h2, hd⟩
    replace hb := hb.trans (hd.mono hb.size)
    replace g0 := cell_kept g0 hd
    replace g1 := cell_kept g1 hd
    replace g2 := cell_kept g2 hd
    replace l0 := cell_kept l0 hd
    replace SA := Lib.hid (SA.out.kept hd)
    replace SP := Lib.hid (SP.out.kept hd)
    replace VG := Lib.hid (VG.out.kept hd)
    replace VL := Lib.hid (VL.out.kept hd)
    clear hd
    rcases h2 with rfl | ⟨h30, h2⟩
    · go_wp2
      go_ret
      exact ⟨rfl, hb⟩
    have h5 : ¬ l2 < 0 := by omega
    have hl2 : ws.length ≤ 1048576 := by omega
    clear h2 h4 h3 h20 h30
    have HSP := Lib.hid (fun (pr : Option Addr) (ar : Option Addr) W (h1 : SliceAt W 1 Tx.enc ar ws) (h2 : SliceAt W 1 I64.enc pr P) => specCheckNoFill_any R C gs ws ar ws.length P pr P.length W hs hR hC h1 (by omega) HF.out h2 (Nat.le_refl _) (by omega))
    have HIM := Lib.hid (fun (pr : Option Addr) (ar : Option Addr) W (h1 : SliceAt W 1 Tx.enc ar ws) (h2 : SliceAt W 1 I64.enc pr P) => CheckNoFill_any R C gs ws ar ws.length P pr P.length W hs h1 (by omega) HF.out h2 (Nat.le_refl _) (by omega))
    generalize noFill R C gs ws P = nf at *
    go_upto_region 10 with fail
    clear g0 g1 g2 l0
    go_cut [8] (fun s8 wx => s8 = .bool nf ∧ Below w4.heap.size w4 wx)
    case first =>
      have hk : Below w4.heap.size w4 w4.drew := (Below.refl _ _).drew
      have kg := Lib.hid (VG.out.kept hk)
      have kl := Lib.hid (VL.out.kept hk)
      go_region_held3 (fun w' => w'.cell? ⟨w.heap.size, 0, none⟩ = some (.int .i64 R) ∧ w'.cell? ⟨w.heap.size, 1, none⟩ = some (.int .i64 C) ∧ w'.cell? ⟨w.heap.size, 2, none⟩ = some (.string gs) ∧ w'.cell? ⟨w.heap.size + 1, 0, none⟩ = some (.slice a ws.length cap))
        (exact ⟨kg.out.cell (i := 0) rfl, kg.out.cell (i := 1) rfl, kg.out.cell (i := 2) rfl, kl.out.cell (i := 0) rfl⟩)
        ((first
          | (go_at_call 9; refine (toGrid_any R C gs _).mono ?_; rintro e wq ⟨rfl, hdq⟩; (try replace S1 := Lib.hid (S1.out.kept hdq)); (try replace S2 := Lib.hid (S2.out.kept hdq)); replace kg := Lib.hid (kg.out.kept hdq); replace kl := Lib.hid (kl.out.kept hdq); replace hk := hk.trans (hdq.mono hk.size); clear hdq)
          | (go_at_call 10; refine (toLexicon_any ws a cap _ (SA.out.kept hk) hl2).mono ?_; rintro e wq ⟨r1, rfl, hoq, hdq⟩; have S1 := Lib.hid (own_slice Tx.enc_len hoq rfl); (try replace S2 := Lib.hid (S2.out.kept hdq)); replace kg := Lib.hid (kg.out.kept hdq); replace kl := Lib.hid (kl.out.kept hdq); replace hk := hk.trans (hdq.mono hk.size); clear hdq hoq)
          | (go_at_call 11; refine (toInt64S_any P pa pcap _ (SP.out.kept hk) hpp).mono ?_; rintro e wq ⟨r2, rfl, hoq, hdq⟩; have S2 := Lib.hid (own_slice I64.enc_len hoq rfl); (try replace S1 := Lib.hid (S1.out.kept hdq)); replace kg := Lib.hid (kg.out.kept hdq); replace kl := Lib.hid (kl.out.kept hdq); replace hk := hk.trans (hdq.mono hk.size); clear hdq hoq)
          | (go_at_call 8; refine (HSP.out _ _ _ S1.out S2.out).mono ?_; rintro e wq ⟨rfl, hdq⟩; replace kg := Lib.hid (kg.out.kept hdq); replace kl := Lib.hid (kl.out.kept hdq); replace hk := hk.trans (hdq.mono hk.size); clear hdq S1 S2)))
      all_goals (go_wp2_with fail; go_meet; exact ⟨rfl, hk⟩)
    case rest =>
      obtain ⟨rfl, hd⟩ := hcut
      replace hb := hb.trans (hd.mono hb.size)
      replace SA := Lib.hid (SA.out.kept hd)
      replace SP := Lib.hid (SP.out.kept hd)
      replace VG := Lib.hid (VG.out.kept hd)
      replace VL := Lib.hid (VL.out.kept hd)
      clear hd
      clear HSP
      have l0 := VL.out.cell (i := 0) rfl
      go_wp2_with fail
      refine (toLexicon_any ws a cap _ SA.out hl2).mono ?_
      rintro e w6 ⟨r1, rfl, ho, hd⟩
      have S1 := Lib.hid (own_slice Tx.enc_len ho rfl)
      clear ho
      replace hb := hb.trans (hd.mono hb.size)
      replace l0 := cell_kept l0 hd
      replace SA := Lib.hid (SA.out.kept hd)
      replace SP := Lib.hid (SP.out.kept hd)
      replace VG := Lib.hid (VG.out.kept hd)
      replace VL := Lib.hid (VL.out.kept hd)
      clear hd
      have hd : Below w6.heap.size w6 (w6.alloc (.cells #[.slice (some ⟨r1, 0, none⟩) ws.length ws.length] 33)) := (Below.refl _ _).alloc (Nat.le_refl _) _
      have V1 := Lib.hid (VarAt.new w6 33 [.slice (some ⟨r1, 0, none⟩) ws.length ws.length])
      replace hb := hb.trans (hd.mono hb.size)
      replace l0 := cell_kept l0 hd
      replace SA := Lib.hid (SA.out.kept hd)
      replace SP := Lib.hid (SP.out.kept hd)
      replace VG := Lib.hid (VG.out.kept hd)
      replace VL := Lib.hid (VL.out.kept hd)
      replace S1 := Lib.hid (S1.out.kept hd)
      clear hd
      go_wp2_with fail
      refine (toInt64S_any P pa pcap _ SP.out hpp).mono ?_
      rintro e w7 ⟨r2, rfl, ho, hd⟩
      have S2 := Lib.hid (own_slice I64.enc_len ho rfl)
      clear ho
      replace hb := hb.trans (hd.mono hb.size)
      replace l0 := cell_kept l0 hd
      replace SA := Lib.hid (SA.out.kept hd)
      replace SP := Lib.hid (SP.out.kept hd)
      replace VG := Lib.hid (VG.out.kept hd)
      replace VL := Lib.hid (VL.out.kept hd)
      replace S1 := Lib.hid (S1.out.kept hd)
      replace V1 := Lib.hid (V1.out.kept hd)
      clear hd
      generalize w6.heap.size = x1 at *
      clear l0
      go_upto_region 13 with fail
      go_cut [11] (fun s11 wx => s11 = .bool nf ∧ Below w7.heap.size w7 wx)
      case first =>
        have hk : Below w7.heap.size w7 w7.drew := (Below.refl _ _).drew
        have kg := Lib.hid (VG.out.kept hk)
        have kl := Lib.hid (V1.out.kept hk)
        go_region_held3 (fun w' => w'.cell? ⟨w.heap.size, 0, none⟩ = some (.int .i64 R) ∧ w'.cell? ⟨w.heap.size, 1, none⟩ = some (.int .i64 C) ∧ w'.cell? ⟨w.heap.size, 2, none⟩ = some (.string gs) ∧ w'.cell? ⟨x1, 0, none⟩ = some (.slice (some ⟨r1, 0, none⟩) ws.length ws.length))
          (exact ⟨kg.out.cell (i := 0) rfl, kg.out.cell (i := 1) rfl, kg.out.cell (i := 2) rfl, kl.out.cell (i := 0) rfl⟩)
          ((first
            | (go_at_call 9; refine (toGrid_any R C gs _).mono ?_; rintro e wq ⟨rfl, hdq⟩; replace kg := Lib.hid (kg.out.kept hdq); replace kl := Lib.hid (kl.out.kept hdq); replace hk := hk.trans (hdq.mono hk.size); clear hdq)
            | (go_at_call 12; refine (HIM.out _ _ _ (S1.out.kept hk) (S2.out.kept hk)).mono ?_; rintro e wq ⟨rfl, hdq⟩; replace kg := Lib.hid (kg.out.kept hdq); replace kl := Lib.hid (kl.out.kept hdq); replace hk := hk.trans (hdq.mono hk.size); clear hdq)))
        all_goals (go_wp2_with fail; go_meet; exact ⟨rfl, hk⟩)
      case rest =>
        obtain ⟨rfl, hd⟩ := hcut
        replace hb := hb.trans (hd.mono hb.size)
        replace SA := Lib.hid (SA.out.kept hd)
        replace SP := Lib.hid (SP.out.kept hd)
        replace VL := Lib.hid (VL.out.kept hd)
        replace S1 := Lib.hid (S1.out.kept hd)
        replace S2 := Lib.hid (S2.out.kept hd)
        replace V1 := Lib.hid (V1.out.kept hd)
        clear hd
        clear HIM VG
        have hnn : (nf != nf) = false := by simp
        go_upto_region 16 with fail
        generalize wc = w8 at *
        have hk : Below w8.heap.size w8 w8.drew := (Below.refl _ _).drew
        have kg := Lib.hid (VL.out.kept hk)
        have kl := Lib.hid (V1.out.kept hk)
        go_region_held3 (fun w' => w'.cell? ⟨w.heap.size + 1, 0, none⟩ = some (.slice a ws.length cap) ∧ w'.cell? ⟨x1, 0, none⟩ = some (.slice (some ⟨r1, 0, none⟩) ws.length ws.length))
          (exact ⟨kg.out.cell (i := 0) rfl, kl.out.cell (i := 0) rfl⟩)
          ((first
            | (go_at_call 10; refine (toLexicon_any ws a cap _ (SA.out.kept hk) hl2).mono ?_; rintro e wq ⟨r3, rfl, hoq, hdq⟩; have S3 := Lib.hid (own_slice Tx.enc_len hoq rfl); replace kg := Lib.hid (kg.out.kept hdq); replace kl := Lib.hid (kl.out.kept hdq); replace hk := hk.trans (hdq.mono hk.size); clear hdq hoq)
            | (go_at_call 13; refine (eqLexicon_any ws _ _ _ _ _ (S1.out.kept hk) S3.out (by omega)).mono ?_; rintro e wq ⟨rfl, hdq⟩; replace kg := Lib.hid (kg.out.kept hdq); replace kl := Lib.hid (kl.out.kept hdq); replace hk := hk.trans (hdq.mono hk.size); clear hdq S3)))
        clear kg kl
        replace hb := hb.trans (hk.mono hb.size)
        replace SP := Lib.hid (SP.out.kept hk)
        replace S2 := Lib.hid (S2.out.kept hk)
        clear hk
        go_wp2_with fail
        refine (toInt64S_any P pa pcap _ SP.out hpp).mono ?_
        rintro e w9 ⟨r4, rfl, ho, hd⟩
        have S4 := Lib.hid (own_slice I64.enc_len ho rfl)
        clear ho
        replace hb := hb.trans (hd.mono hb.size)
        replace S2 := Lib.hid (S2.out.kept hd)
        clear hd
        go_wp2_with fail
        refine (eqInt64S_any P _ _ _ _ _ S2.out S4.out (by omega)).mono ?_
        rintro e w10 ⟨rfl, hd⟩
        replace hb := hb.trans (hd.mono hb.size)
        go_wp2
        go_ret
        exact ⟨rfl, hb⟩
end Go.Proofs.Ytjknpmdmchlfcaa
