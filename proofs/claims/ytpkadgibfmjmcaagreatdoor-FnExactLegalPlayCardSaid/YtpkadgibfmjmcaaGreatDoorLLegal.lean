/- The statement FnExactLegalPlay: the codes of plays. Go's tables of unicode and unicode/utf8 hold what is laid (CEnv), internal/bytealg's MaxLen a number (EnvL). -/
import Derived.Test.YtpkadgibfmjmcaaGreatDoorLgH
import Derived.Test.YtpkadgibfmjmcaaGreatDoorTx
import Derived.Test.YtpkadgibfmjmcaaGreatDoorCEnv
namespace Go.Proofs.YtpkadgibfmjmcaaGreatDoor
open Go.ChangeShapes Go.WideShapes Go.ChangeAt Go.RowKit Go.Sort

set_option maxRecDepth 100000 in
set_option maxHeartbeats 8000000 in
theorem lawLegalPlay_any (b : Brd) (p : Ply) (ws : List ByteArray) (rack : ByteArray) (a : Option Addr) (cap : Nat) (w : World) (hm : SliceAt w 1 Tx.enc a ws) (hf : b.fit) (hpf : p.fit) (hl : ws.length ≤ 9223372036854775807) (hwf : WordsFit ws) (hE : CEnv w) (hEL : EnvL w) :
    Calls Tryz.prog 4 #[.agg #[.int .i64 b.size, .string b.premium, .string b.cells], .agg #[.slice a ws.length cap], .string rack, .agg #[.int .i64 p.row, .int .i64 p.col, .bool p.down, .string p.word]] w fun e w' => e = .returned (.bool true) ∧ Below w.heap.size w w' := by
  obtain ⟨w2, hw2⟩ : ∃ w2, w2 = ((w.alloc (.cells #[.int .i64 b.size, .string b.premium, .string b.cells] 26)).alloc (.cells #[.slice a ws.length cap] 47)).alloc (.cells #[.int .i64 p.row, .int .i64 p.col, .bool p.down, .string p.word] 28) := ⟨_, rfl⟩
  have hb : Below w.heap.size w w2 := by rw [hw2]; exact (((Below.refl _ _).alloc (Nat.le_refl _) _).alloc (by simp) _).alloc (by simp; omega) _
  have VB : Hid (VarAt w2 w.heap.size 26 [.int .i64 b.size, .string b.premium, .string b.cells]) := by
    rw [hw2]
    exact Lib.hid (((VarAt.new w 26 [.int .i64 b.size, .string b.premium, .string b.cells]).kept ((Below.refl _ _).alloc (Nat.le_refl _) _)).kept ((Below.refl _ _).alloc (Nat.le_refl _) _))
  have VL : Hid (VarAt w2 (w.heap.size + 1) 47 [.slice a ws.length cap]) := by
    rw [hw2]
    have := (VarAt.new (w.alloc (.cells #[.int .i64 b.size, .string b.premium, .string b.cells] 26)) 47 [.slice a ws.length cap]).kept ((Below.refl _ _).alloc (Nat.le_refl _) (.cells #[.int .i64 p.row, .int .i64 p.col, .bool p.down, .string p.word] 28))
    simp only [World.size_alloc] at this
    exact Lib.hid this
  have VP : Hid (VarAt w2 (w.heap.size + 2) 28 [.int .i64 p.row, .int .i64 p.col, .bool p.down, .string p.word]) := by
    rw [hw2]
    have := VarAt.new ((w.alloc (.cells #[.int .i64 b.size, .string b.premium, .string b.cells] 26)).alloc (.cells #[.slice a ws.length cap] 47)) 28 [.int .i64 p.row, .int .i64 p.col, .bool p.down, .string p.word]
    simp only [World.size_alloc] at this
    exact Lib.hid this
  have SA := Lib.hid (hm.kept hb)
  have HF := Lib.hid hwf
  have HE := Lib.hid (hE.kept hb)
  have HL := Lib.hid (hEL.kept hb)
  have HW2 := Lib.hid hw2
  clear hw2 hE hEL hm hwf
  by_cases hrk : rack.size ≤ 1048576
  · have HSP : Hid (∀ ar W, SliceAt W 1 Tx.enc ar ws → Calls Tryz.prog 24 #[.agg #[.int .i64 b.size, .string b.premium, .string b.cells], .agg #[.slice ar ws.length ws.length], .string rack, .agg #[.int .i64 p.row, .int .i64 p.col, .bool p.down, .string p.word]] W fun e w' => e = .returned (.int .i64 (b.legalPlay ws rack p)) ∧ Below W.heap.size W w') := Lib.hid (fun ar W h => specLegalPlay_any b p ws rack ar ws.length W h hf hpf hl HF.out (by omega))
    have HIM : Hid (p.word.size ≤ 1048576 → ∀ ar W, SliceAt W 1 Tx.enc ar ws → CEnv W → EnvL W → Calls Tryz.prog 26 #[.agg #[.int .i64 b.size, .string b.premium, .string b.cells], .agg #[.slice ar ws.length ws.length], .string rack, .agg #[.int .i64 p.row, .int .i64 p.col, .bool p.down, .string p.word]] W fun e w' => e = .returned (.int .i64 (b.legalPlay ws rack p)) ∧ Below W.heap.size W w') := Lib.hid (fun hs ar W h he hx => LegalPlay_any b p ws rack ar ws.length W h hf hs hl HF.out (by omega) he hx)
    generalize b.legalPlay ws rack p = kc at *
    have hrk2 : ¬ (1048576 : Int) < (rack.size : Int) := by omega
    go_enter Tryz.func4, Tryz.ntmps4
    go_upto_region 4 with fail
    rw [← HW2.out]
    clear HW2
    have b0 := VB.out.cell (i := 0) rfl
    have b1 := VB.out.cell (i := 1) rfl
    have b2 := VB.out.cell (i := 2) rfl
    go_wp2_with fail
    refine (szBoard_any b 1048576 _ (by omega) (by omega) hf).mono ?_
    rintro e w3 ⟨l1, rfl, z1, hd⟩
    replace hb := hb.trans (hd.mono hb.size)
    replace b0 := cell_kept b0 hd
    replace b1 := cell_kept b1 hd
    replace b2 := cell_kept b2 hd
    replace VB := Lib.hid (VB.out.kept hd)
    replace VP := Lib.hid (VP.out.kept hd)
    replace VL := Lib.hid (VL.out.kept hd)
    replace SA := Lib.hid (SA.out.kept hd)
    replace HE := Lib.hid (HE.out.kept hd)
    replace HL := Lib.hid (HL.out.kept hd)
    clear hd
    clear b0 b1 b2
    rcases z1 with rfl | ⟨y1, z1⟩
    · go_wp2
      go_ret
      exact ⟨rfl, hb⟩
    have n1 : ¬ l1 < 0 := by omega
    have l0 := VL.out.cell (i := 0) rfl
    go_wp2_with fail
    refine (szLexicon_any ws a cap l1 _ SA.out hl HF.out (by omega) (by omega)).mono ?_
    rintro e w4 ⟨l2, rfl, z2, hd⟩
    clear l0
    replace hb := hb.trans (hd.mono hb.size)
    replace VB := Lib.hid (VB.out.kept hd)
    replace VP := Lib.hid (VP.out.kept hd)
    replace VL := Lib.hid (VL.out.kept hd)
    replace SA := Lib.hid (SA.out.kept hd)
    replace HE := Lib.hid (HE.out.kept hd)
    replace HL := Lib.hid (HL.out.kept hd)
    clear hd
    rcases z2 with rfl | ⟨y2, z2⟩
    · go_wp2
      go_ret
      exact ⟨rfl, hb⟩
    have n2 : ¬ l2 < 0 := by omega
    have hl2 : ws.length ≤ 1048576 := by omega
    have p0 := VP.out.cell (i := 0) rfl
    have p1 := VP.out.cell (i := 1) rfl
    have p2 := VP.out.cell (i := 2) rfl
    have p3 := VP.out.cell (i := 3) rfl
    go_wp2_with fail
    refine (szPlay_any p l2 _ (by omega) (by omega) hpf).mono ?_
    rintro e w5 ⟨l3, rfl, z3, hd⟩
    clear p0 p1 p2 p3
    replace hb := hb.trans (hd.mono hb.size)
    replace VB := Lib.hid (VB.out.kept hd)
    replace VP := Lib.hid (VP.out.kept hd)
    replace VL := Lib.hid (VL.out.kept hd)
    replace SA := Lib.hid (SA.out.kept hd)
    replace HE := Lib.hid (HE.out.kept hd)
    replace HL := Lib.hid (HL.out.kept hd)
    clear hd
    rcases z3 with rfl | ⟨y3, z3⟩
    · go_wp2
      go_ret
      exact ⟨rfl, hb⟩
    have n3 : ¬ l3 < 0 := by omega
    have hps : p.word.size ≤ 1048576 := by unfold Ply.sz at z3; omega
    replace HIM := Lib.hid (HIM.out hps)
    clear z1 z2 z3 y1 y2 y3 hps hf hpf hrk hrk2
    go_upto_region 13 with fail
    have VX := VL
    have hd : Below w5.heap.size w5 w5.drew := (Below.refl _ _).drew
    replace hb := hb.trans (hd.mono hb.size)
    replace VB := Lib.hid (VB.out.kept hd)
    replace VP := Lib.hid (VP.out.kept hd)
    replace VX := Lib.hid (VX.out.kept hd)
    replace SA := Lib.hid (SA.out.kept hd)
    replace HE := Lib.hid (HE.out.kept hd)
    replace HL := Lib.hid (HL.out.kept hd)
    clear hd
    go_region_held3 (fun w' => w'.cell? ⟨w.heap.size, 0, none⟩ = some (.int .i64 b.size) ∧ w'.cell? ⟨w.heap.size, 1, none⟩ = some (.string b.premium) ∧ w'.cell? ⟨w.heap.size, 2, none⟩ = some (.string b.cells) ∧ w'.cell? ⟨w.heap.size + 2, 0, none⟩ = some (.int .i64 p.row) ∧ w'.cell? ⟨w.heap.size + 2, 1, none⟩ = some (.int .i64 p.col) ∧ w'.cell? ⟨w.heap.size + 2, 2, none⟩ = some (.bool p.down) ∧ w'.cell? ⟨w.heap.size + 2, 3, none⟩ = some (.string p.word) ∧ w'.cell? ⟨w.heap.size + 1, 0, none⟩ = some (.slice a ws.length cap))
      (exact ⟨VB.out.cell (i := 0) rfl, VB.out.cell (i := 1) rfl, VB.out.cell (i := 2) rfl, VP.out.cell (i := 0) rfl, VP.out.cell (i := 1) rfl, VP.out.cell (i := 2) rfl, VP.out.cell (i := 3) rfl, VX.out.cell (i := 0) rfl⟩)
      (((first | (go_at_call 15; refine (toBoard_any b _).mono ?_; rintro e wq ⟨rfl, hd⟩) | (go_at_call 16; refine (toPlay_any p _).mono ?_; rintro e wq ⟨rfl, hd⟩) | (go_at_call 25; refine (toLexicon_any ws a cap _ SA.out hl2).mono ?_; rintro e wq ⟨rq, rfl, hoq, hd⟩; have SQ := Lib.hid (own_slice Tx.enc_len hoq rfl); clear hoq) | (go_at_call 24; refine (HSP.out _ _ SQ.out).mono ?_; rintro e wq ⟨rfl, hd⟩)); (try replace SQ := Lib.hid (SQ.out.kept hd)); replace VB := Lib.hid (VB.out.kept hd); replace VP := Lib.hid (VP.out.kept hd); replace VX := Lib.hid (VX.out.kept hd); replace SA := Lib.hid (SA.out.kept hd); replace HE := Lib.hid (HE.out.kept hd); replace HL := Lib.hid (HL.out.kept hd); replace hb := hb.trans (hd.mono hb.size); clear hd))
    generalize wq = w6 at *
    clear SQ HSP
    have VL := VX
    have l0 := VL.out.cell (i := 0) rfl
    go_wp2_with fail
    refine (toLexicon_any ws a cap _ SA.out hl2).mono ?_
    rintro e w7 ⟨r1, rfl, ho, hd⟩
    have S9 := Lib.hid (own_slice Tx.enc_len ho rfl)
    clear ho l0 VX
    replace hb := hb.trans (hd.mono hb.size)
    replace VB := Lib.hid (VB.out.kept hd)
    replace VP := Lib.hid (VP.out.kept hd)
    replace VL := Lib.hid (VL.out.kept hd)
    replace SA := Lib.hid (SA.out.kept hd)
    replace HE := Lib.hid (HE.out.kept hd)
    replace HL := Lib.hid (HL.out.kept hd)
    clear hd
    have hd : Below w7.heap.size w7 (w7.alloc (.cells #[.slice (some ⟨r1, 0, none⟩) ws.length ws.length] 50)) := (Below.refl _ _).alloc (Nat.le_refl _) _
    have VX := Lib.hid (VarAt.new w7 50 [.slice (some ⟨r1, 0, none⟩) ws.length ws.length])
    replace S9 := Lib.hid (S9.out.kept hd)
    replace hb := hb.trans (hd.mono hb.size)
    replace VB := Lib.hid (VB.out.kept hd)
    replace VP := Lib.hid (VP.out.kept hd)
    replace VL := Lib.hid (VL.out.kept hd)
    replace SA := Lib.hid (SA.out.kept hd)
    replace HE := Lib.hid (HE.out.kept hd)
    replace HL := Lib.hid (HL.out.kept hd)
    clear hd
    go_upto_region 15 with fail
    generalize w7.alloc (.cells #[.slice (some ⟨r1, 0, none⟩) ws.length ws.length] 50) = w8 at *
    generalize w7.heap.size = x1 at *
    have hd : Below w8.heap.size w8 w8.drew := (Below.refl _ _).drew
    replace S9 := Lib.hid (S9.out.kept hd)
    replace hb := hb.trans (hd.mono hb.size)
    replace VB := Lib.hid (VB.out.kept hd)
    replace VP := Lib.hid (VP.out.kept hd)
    replace VL := Lib.hid (VL.out.kept hd)
    replace VX := Lib.hid (VX.out.kept hd)
    replace SA := Lib.hid (SA.out.kept hd)
    replace HE := Lib.hid (HE.out.kept hd)
    replace HL := Lib.hid (HL.out.kept hd)
    clear hd
    go_region_held3 (fun w' => w'.cell? ⟨w.heap.size, 0, none⟩ = some (.int .i64 b.size) ∧ w'.cell? ⟨w.heap.size, 1, none⟩ = some (.string b.premium) ∧ w'.cell? ⟨w.heap.size, 2, none⟩ = some (.string b.cells) ∧ w'.cell? ⟨w.heap.size + 2, 0, none⟩ = some (.int .i64 p.row) ∧ w'.cell? ⟨w.heap.size + 2, 1, none⟩ = some (.int .i64 p.col) ∧ w'.cell? ⟨w.heap.size + 2, 2, none⟩ = some (.bool p.down) ∧ w'.cell? ⟨w.heap.size + 2, 3, none⟩ = some (.string p.word) ∧ w'.cell? ⟨x1, 0, none⟩ = some (.slice (some ⟨r1, 0, none⟩) ws.length ws.length))
      (exact ⟨VB.out.cell (i := 0) rfl, VB.out.cell (i := 1) rfl, VB.out.cell (i := 2) rfl, VP.out.cell (i := 0) rfl, VP.out.cell (i := 1) rfl, VP.out.cell (i := 2) rfl, VP.out.cell (i := 3) rfl, VX.out.cell (i := 0) rfl⟩)
      (((first | (go_at_call 15; refine (toBoard_any b _).mono ?_; rintro e wq ⟨rfl, hd⟩) | (go_at_call 16; refine (toPlay_any p _).mono ?_; rintro e wq ⟨rfl, hd⟩) | (go_at_call 25; refine (toLexicon_any ws a cap _ SA.out hl2).mono ?_; rintro e wq ⟨rq, rfl, hoq, hd⟩; have SQ := Lib.hid (own_slice Tx.enc_len hoq rfl); clear hoq) | (go_at_call 26; refine (HIM.out _ _ S9.out HE.out HL.out).mono ?_; rintro e wq ⟨rfl, hd⟩)); replace VL := Lib.hid (VL.out.kept hd) <;> replace S9 := Lib.hid (S9.out.kept hd); replace VB := Lib.hid (VB.out.kept hd); replace VP := Lib.hid (VP.out.kept hd); replace VX := Lib.hid (VX.out.kept hd); replace SA := Lib.hid (SA.out.kept hd); replace HE := Lib.hid (HE.out.kept hd); replace HL := Lib.hid (HL.out.kept hd); replace hb := hb.trans (hd.mono hb.size); clear hd))
    generalize wq = w9 at *
    clear HIM HE HL VB VP
    have hkk : (kc != kc) = false := by simp
    go_upto_region 18 with fail
    have hd : Below w9.heap.size w9 w9.drew := (Below.refl _ _).drew
    replace S9 := Lib.hid (S9.out.kept hd)
    replace hb := hb.trans (hd.mono hb.size)
    replace VL := Lib.hid (VL.out.kept hd)
    replace VX := Lib.hid (VX.out.kept hd)
    replace SA := Lib.hid (SA.out.kept hd)
    clear hd
    go_region_held3 (fun w' => w'.cell? ⟨w.heap.size + 1, 0, none⟩ = some (.slice a ws.length cap) ∧ w'.cell? ⟨x1, 0, none⟩ = some (.slice (some ⟨r1, 0, none⟩) ws.length ws.length))
      (exact ⟨VL.out.cell (i := 0) rfl, VX.out.cell (i := 0) rfl⟩)
      (((first
        | (go_at_call 25; refine (toLexicon_any ws a cap _ SA.out hl2).mono ?_; rintro e wq ⟨r3, rfl, hoq, hd⟩; have S3 := Lib.hid (own_slice Tx.enc_len hoq rfl); clear hoq)
        | (go_at_call 27; refine (eqLexicon_any ws _ _ _ _ _ S9.out S3.out (by omega)).mono ?_; rintro e wq ⟨rfl, hd⟩)); replace VL := Lib.hid (VL.out.kept hd); replace VX := Lib.hid (VX.out.kept hd); replace SA := Lib.hid (SA.out.kept hd); replace S9 := Lib.hid (S9.out.kept hd); replace hb := hb.trans (hd.mono hb.size); clear hd))
    generalize wq = w11 at *
    clear S3 S9 VL SA
    go_wp2
    go_ret
    exact ⟨rfl, hb⟩
  · have hrk2 : (1048576 : Int) < (rack.size : Int) := by omega
    have hb3 := hb
    rw [HW2.out] at hb3
    clear HE HL VB VL VP SA hb HW2
    go_enter Tryz.func4, Tryz.ntmps4
    go_wp2
    go_ret
    exact ⟨rfl, hb3⟩
open Go.Joins Go.Deep Go.Lib in
theorem cenvG_of_laid {W : World} (h : laidMetH Tryz.prog Rows.fnExactLegalPlayRow.laid W) : CEnv W := by
  rw [MakeChecks.laidMetH_plain _ _ _ (by kernel_rfl)] at h
  exact cenv_of_met h (List.mem_cons_self) (List.mem_cons_of_mem _ (List.mem_cons_self)) (List.mem_cons_of_mem _ (List.mem_cons_of_mem _ (List.mem_cons_self)))
end Go.Proofs.YtpkadgibfmjmcaaGreatDoor
