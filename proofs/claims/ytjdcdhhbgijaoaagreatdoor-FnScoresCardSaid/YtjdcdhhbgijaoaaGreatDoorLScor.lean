/- The law of FnScores: for every code the statement's own function answers true. Leans on Go's tables (CEnv). -/
import Derived.Test.YtjdcdhhbgijaoaaGreatDoorFscP
import Derived.Test.YtjdcdhhbgijaoaaGreatDoorDtE
import Derived.Deep.DeepCutAuto
import Derived.BigQuiet
namespace Go.Proofs.YtjdcdhhbgijaoaaGreatDoor
open Go.ChangeShapes Go.WideShapes Go.ChangeAt Go.RowKit Go.Sort

set_option maxRecDepth 100000 in
set_option maxHeartbeats 8000000 in
theorem lawScores_any (ca : Option Addr) (ccap : Nat) (bs : List Int) (w : World) (hs : SliceAt w 1 Byt.enc ca bs) (hbd : ∀ x ∈ bs, 0 ≤ x ∧ x ≤ 255) (hE : CEnv w) :
    Calls Tryz.prog 4 #[.slice ca bs.length ccap] w fun e w' => e = .returned (.bool true) ∧ Below w.heap.size w w' := by
  by_cases hbig : 4096 < bs.length
  · have hd : decide ((4096 : Int) < bs.length) = true := by rw [decide_eq_true_eq]; omega
    clear hs hbd hE
    go_enter Tryz.func4, Tryz.ntmps4
    go_wp2_with fail
    refine (f6big_ct ca bs.length ccap w).mono ?_
    rintro e w1 ⟨rfl, rfl⟩
    rw [hd]
    go_wp2
    go_ret
    exact ⟨rfl, Below.refl _ _⟩
  · have hd : decide ((4096 : Int) < bs.length) = false := by rw [decide_eq_false_iff_not]; omega
    have HC : Hid (CodeAt w w.heap.size ca bs) := Lib.hid ⟨hs, hbd, by omega, fun h0 cb co e => by
      obtain ⟨b', o', e', hc⟩ := hs.open h0
      rw [e] at e'
      simp only [Option.some.injEq, Addr.mk.injEq, and_true] at e'
      rw [e'.1]
      exact block_lt (hc.at0 h0 rfl)⟩
    have HE := Lib.hid hE
    clear hs hbd hE
    go_enter Tryz.func4, Tryz.ntmps4
    go_wp2_with fail
    refine (f6big_ct ca bs.length ccap w).mono ?_
    rintro e w1 ⟨rfl, rfl⟩
    rw [hd]
    clear hd hbig
    go_wp2_with fail
    refine (DrawScorePlay_any ca ccap bs w HC.out).mono ?_
    rintro e w2 ⟨x, q, b, p, hl1, hl2, hl3, hP, hC, hW, rfl, hox, hb⟩
    obtain ⟨n, cd, P, L, fc, cf, pr, K⟩ := scoreK x q b p ⟨by omega, by omega, by omega⟩ (by omega) ⟨by omega, by omega⟩ (by omega)
    have HK := Lib.hid K
    have hd : Below w2.heap.size w2 (((w2.alloc (.cells #[.string x.letters, .slice q.values.a x.values.length q.values.c, .slice q.counts.a x.counts.length q.counts.c, .int .i64 x.blanks] 44)).alloc (.cells #[.int .i64 b.size, .string b.premium, .string b.cells] 25)).alloc (.cells #[.int .i64 p.row, .int .i64 p.col, .bool p.down, .string p.word] 30)) := (((Below.refl _ _).alloc (Nat.le_refl _) _).alloc (by simp) _).alloc (by simp; omega) _
    have V3 := Lib.hid (((VarAt.new w2 44 [.string x.letters, .slice q.values.a x.values.length q.values.c, .slice q.counts.a x.counts.length q.counts.c, .int .i64 x.blanks]).kept ((Below.refl _ _).alloc (Nat.le_refl _) (.cells #[.int .i64 b.size, .string b.premium, .string b.cells] 25))).kept ((Below.refl _ _).alloc (Nat.le_refl _) (.cells #[.int .i64 p.row, .int .i64 p.col, .bool p.down, .string p.word] 30)))
    have V4 : Hid (VarAt (((w2.alloc (.cells #[.string x.letters, .slice q.values.a x.values.length q.values.c, .slice q.counts.a x.counts.length q.counts.c, .int .i64 x.blanks] 44)).alloc (.cells #[.int .i64 b.size, .string b.premium, .string b.cells] 25)).alloc (.cells #[.int .i64 p.row, .int .i64 p.col, .bool p.down, .string p.word] 30)) (w2.heap.size + 1) 25 [.int .i64 b.size, .string b.premium, .string b.cells]) := by
      have := (VarAt.new (w2.alloc (.cells #[.string x.letters, .slice q.values.a x.values.length q.values.c, .slice q.counts.a x.counts.length q.counts.c, .int .i64 x.blanks] 44)) 25 [.int .i64 b.size, .string b.premium, .string b.cells]).kept ((Below.refl _ _).alloc (Nat.le_refl _) (.cells #[.int .i64 p.row, .int .i64 p.col, .bool p.down, .string p.word] 30))
      simp only [World.size_alloc] at this
      exact Lib.hid this
    have V5 : Hid (VarAt (((w2.alloc (.cells #[.string x.letters, .slice q.values.a x.values.length q.values.c, .slice q.counts.a x.counts.length q.counts.c, .int .i64 x.blanks] 44)).alloc (.cells #[.int .i64 b.size, .string b.premium, .string b.cells] 25)).alloc (.cells #[.int .i64 p.row, .int .i64 p.col, .bool p.down, .string p.word] 30)) (w2.heap.size + 1 + 1) 30 [.int .i64 p.row, .int .i64 p.col, .bool p.down, .string p.word]) := by
      have := VarAt.new ((w2.alloc (.cells #[.string x.letters, .slice q.values.a x.values.length q.values.c, .slice q.counts.a x.counts.length q.counts.c, .int .i64 x.blanks] 44)).alloc (.cells #[.int .i64 b.size, .string b.premium, .string b.cells] 25)) 30 [.int .i64 p.row, .int .i64 p.col, .bool p.down, .string p.word]
      simp only [World.size_alloc] at this
      exact Lib.hid this
    have AX := Lib.hid ((Tls.Own.at hox).kept hd)
    replace hb := hb.trans (hd.mono hb.size)
    clear hd hox hl1 hl2 hl3 hP hC hW HC K
    generalize hB : w2.heap.size = B3 at *
    obtain ⟨w3, hw⟩ : ∃ wE, ((w2.alloc (.cells #[.string x.letters, .slice q.values.a x.values.length q.values.c, .slice q.counts.a x.counts.length q.counts.c, .int .i64 x.blanks] 44)).alloc (.cells #[.int .i64 b.size, .string b.premium, .string b.cells] 25)).alloc (.cells #[.int .i64 p.row, .int .i64 p.col, .bool p.down, .string p.word] 30) = wE := ⟨_, rfl⟩
    rw [hw] at hb V3 V4 V5 AX
    have t0 := V3.out.cell (i := 0) (v := .string x.letters) rfl
    have t1 := V3.out.cell (i := 1) (v := .slice q.values.a x.values.length q.values.c) rfl
    have t2 := V3.out.cell (i := 2) (v := .slice q.counts.a x.counts.length q.counts.c) rfl
    have t3 := V3.out.cell (i := 3) (v := .int .i64 x.blanks) rfl
    have b0 := V4.out.cell (i := 0) (v := .int .i64 b.size) rfl
    have b1 := V4.out.cell (i := 1) (v := .string b.premium) rfl
    have b2 := V4.out.cell (i := 2) (v := .string b.cells) rfl
    have p0 := V5.out.cell (i := 0) (v := .int .i64 p.row) rfl
    have p1 := V5.out.cell (i := 1) (v := .int .i64 p.col) rfl
    have p2 := V5.out.cell (i := 2) (v := .bool p.down) rfl
    have p3 := V5.out.cell (i := 3) (v := .string p.word) rfl
    go_wp2_with fail
    clear hw hB
    refine (HK.out.sp1 w3 AX.out (HE.out.kept hb)).mono ?_
    rintro e w4 ⟨rfl, hd⟩
    clear t0 t1 t2 t3 b0 b1 b2 p0 p1 p2 p3
    replace hb := hb.trans (Below.mono hd hb.size)
    replace V3 := Lib.hid (V3.out.kept hd)
    replace V4 := Lib.hid (V4.out.kept hd)
    replace V5 := Lib.hid (V5.out.kept hd)
    replace AX := Lib.hid (AX.out.kept hd)
    try replace SP := Lib.hid (SP.out.kept hd)
    try replace SQ := Lib.hid (SQ.out.kept hd)
    try replace SL := Lib.hid (SL.out.kept hd)
    try replace SM := Lib.hid (SM.out.kept hd)
    clear hd
    have t0 := V3.out.cell (i := 0) (v := .string x.letters) rfl
    have t1 := V3.out.cell (i := 1) (v := .slice q.values.a x.values.length q.values.c) rfl
    have t2 := V3.out.cell (i := 2) (v := .slice q.counts.a x.counts.length q.counts.c) rfl
    have t3 := V3.out.cell (i := 3) (v := .int .i64 x.blanks) rfl
    have b0 := V4.out.cell (i := 0) (v := .int .i64 b.size) rfl
    have b1 := V4.out.cell (i := 1) (v := .string b.premium) rfl
    have b2 := V4.out.cell (i := 2) (v := .string b.cells) rfl
    have p0 := V5.out.cell (i := 0) (v := .int .i64 p.row) rfl
    have p1 := V5.out.cell (i := 1) (v := .int .i64 p.col) rfl
    have p2 := V5.out.cell (i := 2) (v := .bool p.down) rfl
    have p3 := V5.out.cell (i := 3) (v := .string p.word) rfl
    go_wp2_with fail
    refine (HK.out.sp2 w4 AX.out).mono ?_
    rintro e w5 ⟨rfl, hd⟩
    clear t0 t1 t2 t3 b0 b1 b2 p0 p1 p2 p3
    replace hb := hb.trans (Below.mono hd hb.size)
    replace V3 := Lib.hid (V3.out.kept hd)
    replace V4 := Lib.hid (V4.out.kept hd)
    replace V5 := Lib.hid (V5.out.kept hd)
    replace AX := Lib.hid (AX.out.kept hd)
    try replace SP := Lib.hid (SP.out.kept hd)
    try replace SQ := Lib.hid (SQ.out.kept hd)
    try replace SL := Lib.hid (SL.out.kept hd)
    try replace SM := Lib.hid (SM.out.kept hd)
    clear hd
    have t0 := V3.out.cell (i := 0) (v := .string x.letters) rfl
    have t1 := V3.out.cell (i := 1) (v := .slice q.values.a x.values.length q.values.c) rfl
    have t2 := V3.out.cell (i := 2) (v := .slice q.counts.a x.counts.length q.counts.c) rfl
    have t3 := V3.out.cell (i := 3) (v := .int .i64 x.blanks) rfl
    have b0 := V4.out.cell (i := 0) (v := .int .i64 b.size) rfl
    have b1 := V4.out.cell (i := 1) (v := .string b.premium) rfl
    have b2 := V4.out.cell (i := 2) (v := .string b.cells) rfl
    have p0 := V5.out.cell (i := 0) (v := .int .i64 p.row) rfl
    have p1 := V5.out.cell (i := 1) (v := .int .i64 p.col) rfl
    have p2 := V5.out.cell (i := 2) (v := .bool p.down) rfl
    have p3 := V5.out.cell (i := 3) (v := .string p.word) rfl
    go_wp2_with fail
    refine (HK.out.pt1 w5 AX.out (HE.out.kept hb)).mono ?_
    rintro e w6 ⟨aP, cP, rfl, h9, hd⟩
    clear t0 t1 t2 t3 b0 b1 b2 p0 p1 p2 p3
    replace hb := hb.trans (Below.mono hd hb.size)
    replace V3 := Lib.hid (V3.out.kept hd)
    replace V4 := Lib.hid (V4.out.kept hd)
    replace V5 := Lib.hid (V5.out.kept hd)
    replace AX := Lib.hid (AX.out.kept hd)
    try replace SP := Lib.hid (SP.out.kept hd)
    try replace SQ := Lib.hid (SQ.out.kept hd)
    try replace SL := Lib.hid (SL.out.kept hd)
    try replace SM := Lib.hid (SM.out.kept hd)
    have SP := Lib.hid h9
    clear hd h9
    have t0 := V3.out.cell (i := 0) (v := .string x.letters) rfl
    have t1 := V3.out.cell (i := 1) (v := .slice q.values.a x.values.length q.values.c) rfl
    have t2 := V3.out.cell (i := 2) (v := .slice q.counts.a x.counts.length q.counts.c) rfl
    have t3 := V3.out.cell (i := 3) (v := .int .i64 x.blanks) rfl
    have b0 := V4.out.cell (i := 0) (v := .int .i64 b.size) rfl
    have b1 := V4.out.cell (i := 1) (v := .string b.premium) rfl
    have b2 := V4.out.cell (i := 2) (v := .string b.cells) rfl
    have p0 := V5.out.cell (i := 0) (v := .int .i64 p.row) rfl
    have p1 := V5.out.cell (i := 1) (v := .int .i64 p.col) rfl
    have p2 := V5.out.cell (i := 2) (v := .bool p.down) rfl
    have p3 := V5.out.cell (i := 3) (v := .string p.word) rfl
    go_wp2_with fail
    refine (HK.out.pt2 w6 AX.out).mono ?_
    rintro e w7 ⟨aQ, cQ, rfl, h9, hd⟩
    clear t0 t1 t2 t3 b0 b1 b2 p0 p1 p2 p3
    replace hb := hb.trans (Below.mono hd hb.size)
    replace V3 := Lib.hid (V3.out.kept hd)
    replace V4 := Lib.hid (V4.out.kept hd)
    replace V5 := Lib.hid (V5.out.kept hd)
    replace AX := Lib.hid (AX.out.kept hd)
    try replace SP := Lib.hid (SP.out.kept hd)
    try replace SQ := Lib.hid (SQ.out.kept hd)
    try replace SL := Lib.hid (SL.out.kept hd)
    try replace SM := Lib.hid (SM.out.kept hd)
    have SQ := Lib.hid h9
    clear hd h9
    have t0 := V3.out.cell (i := 0) (v := .string x.letters) rfl
    have t1 := V3.out.cell (i := 1) (v := .slice q.values.a x.values.length q.values.c) rfl
    have t2 := V3.out.cell (i := 2) (v := .slice q.counts.a x.counts.length q.counts.c) rfl
    have t3 := V3.out.cell (i := 3) (v := .int .i64 x.blanks) rfl
    have b0 := V4.out.cell (i := 0) (v := .int .i64 b.size) rfl
    have b1 := V4.out.cell (i := 1) (v := .string b.premium) rfl
    have b2 := V4.out.cell (i := 2) (v := .string b.cells) rfl
    have p0 := V5.out.cell (i := 0) (v := .int .i64 p.row) rfl
    have p1 := V5.out.cell (i := 1) (v := .int .i64 p.col) rfl
    have p2 := V5.out.cell (i := 2) (v := .bool p.down) rfl
    have p3 := V5.out.cell (i := 3) (v := .string p.word) rfl
    go_wp2_with fail
    refine (HK.out.lt1 w7 AX.out (HE.out.kept hb)).mono ?_
    rintro e w8 ⟨aL, cL, rfl, h9, hd⟩
    clear t0 t1 t2 t3 b0 b1 b2 p0 p1 p2 p3
    replace hb := hb.trans (Below.mono hd hb.size)
    replace V3 := Lib.hid (V3.out.kept hd)
    replace V4 := Lib.hid (V4.out.kept hd)
    replace V5 := Lib.hid (V5.out.kept hd)
    replace AX := Lib.hid (AX.out.kept hd)
    try replace SP := Lib.hid (SP.out.kept hd)
    try replace SQ := Lib.hid (SQ.out.kept hd)
    try replace SL := Lib.hid (SL.out.kept hd)
    try replace SM := Lib.hid (SM.out.kept hd)
    have SL := Lib.hid h9
    clear hd h9
    have t0 := V3.out.cell (i := 0) (v := .string x.letters) rfl
    have t1 := V3.out.cell (i := 1) (v := .slice q.values.a x.values.length q.values.c) rfl
    have t2 := V3.out.cell (i := 2) (v := .slice q.counts.a x.counts.length q.counts.c) rfl
    have t3 := V3.out.cell (i := 3) (v := .int .i64 x.blanks) rfl
    have b0 := V4.out.cell (i := 0) (v := .int .i64 b.size) rfl
    have b1 := V4.out.cell (i := 1) (v := .string b.premium) rfl
    have b2 := V4.out.cell (i := 2) (v := .string b.cells) rfl
    have p0 := V5.out.cell (i := 0) (v := .int .i64 p.row) rfl
    have p1 := V5.out.cell (i := 1) (v := .int .i64 p.col) rfl
    have p2 := V5.out.cell (i := 2) (v := .bool p.down) rfl
    have p3 := V5.out.cell (i := 3) (v := .string p.word) rfl
    go_wp2_with fail
    refine (HK.out.lt2 w8 AX.out).mono ?_
    rintro e w9 ⟨aM, cM, rfl, h9, hd⟩
    clear t0 t1 t2 t3 b0 b1 b2 p0 p1 p2 p3
    replace hb := hb.trans (Below.mono hd hb.size)
    replace V3 := Lib.hid (V3.out.kept hd)
    replace V4 := Lib.hid (V4.out.kept hd)
    replace V5 := Lib.hid (V5.out.kept hd)
    replace AX := Lib.hid (AX.out.kept hd)
    try replace SP := Lib.hid (SP.out.kept hd)
    try replace SQ := Lib.hid (SQ.out.kept hd)
    try replace SL := Lib.hid (SL.out.kept hd)
    try replace SM := Lib.hid (SM.out.kept hd)
    have SM := Lib.hid h9
    clear hd h9
    have b0 := V4.out.cell (i := 0) (v := .int .i64 b.size) rfl
    have b1 := V4.out.cell (i := 1) (v := .string b.premium) rfl
    have b2 := V4.out.cell (i := 2) (v := .string b.cells) rfl
    have p0 := V5.out.cell (i := 0) (v := .int .i64 p.row) rfl
    have p1 := V5.out.cell (i := 1) (v := .int .i64 p.col) rfl
    have p2 := V5.out.cell (i := 2) (v := .bool p.down) rfl
    have p3 := V5.out.cell (i := 3) (v := .string p.word) rfl
    go_wp2_with fail
    refine (HK.out.wf1 w9 (HE.out.kept hb)).mono ?_
    rintro e w10 ⟨rfl, hd⟩
    clear b0 b1 b2 p0 p1 p2 p3
    replace hb := hb.trans (Below.mono hd hb.size)
    replace V3 := Lib.hid (V3.out.kept hd)
    replace V4 := Lib.hid (V4.out.kept hd)
    replace V5 := Lib.hid (V5.out.kept hd)
    replace AX := Lib.hid (AX.out.kept hd)
    try replace SP := Lib.hid (SP.out.kept hd)
    try replace SQ := Lib.hid (SQ.out.kept hd)
    try replace SL := Lib.hid (SL.out.kept hd)
    try replace SM := Lib.hid (SM.out.kept hd)
    clear hd
    have b0 := V4.out.cell (i := 0) (v := .int .i64 b.size) rfl
    have b1 := V4.out.cell (i := 1) (v := .string b.premium) rfl
    have b2 := V4.out.cell (i := 2) (v := .string b.cells) rfl
    have p0 := V5.out.cell (i := 0) (v := .int .i64 p.row) rfl
    have p1 := V5.out.cell (i := 1) (v := .int .i64 p.col) rfl
    have p2 := V5.out.cell (i := 2) (v := .bool p.down) rfl
    have p3 := V5.out.cell (i := 3) (v := .string p.word) rfl
    go_wp2_with fail
    refine (HK.out.wf2 w10).mono ?_
    rintro e w11 ⟨rfl, hd⟩
    clear b0 b1 b2 p0 p1 p2 p3
    replace hb := hb.trans (Below.mono hd hb.size)
    replace V3 := Lib.hid (V3.out.kept hd)
    replace V4 := Lib.hid (V4.out.kept hd)
    replace V5 := Lib.hid (V5.out.kept hd)
    replace AX := Lib.hid (AX.out.kept hd)
    try replace SP := Lib.hid (SP.out.kept hd)
    try replace SQ := Lib.hid (SQ.out.kept hd)
    try replace SL := Lib.hid (SL.out.kept hd)
    try replace SM := Lib.hid (SM.out.kept hd)
    clear hd
    have b0 := V4.out.cell (i := 0) (v := .int .i64 b.size) rfl
    have b1 := V4.out.cell (i := 1) (v := .string b.premium) rfl
    have b2 := V4.out.cell (i := 2) (v := .string b.cells) rfl
    have p0 := V5.out.cell (i := 0) (v := .int .i64 p.row) rfl
    have p1 := V5.out.cell (i := 1) (v := .int .i64 p.col) rfl
    have p2 := V5.out.cell (i := 2) (v := .bool p.down) rfl
    have p3 := V5.out.cell (i := 3) (v := .string p.word) rfl
    go_wp2_with fail
    refine (HK.out.pu1 w11 (HE.out.kept hb)).mono ?_
    rintro e w12 ⟨rfl, hd⟩
    clear b0 b1 b2 p0 p1 p2 p3
    replace hb := hb.trans (Below.mono hd hb.size)
    replace V3 := Lib.hid (V3.out.kept hd)
    replace V4 := Lib.hid (V4.out.kept hd)
    replace V5 := Lib.hid (V5.out.kept hd)
    replace AX := Lib.hid (AX.out.kept hd)
    try replace SP := Lib.hid (SP.out.kept hd)
    try replace SQ := Lib.hid (SQ.out.kept hd)
    try replace SL := Lib.hid (SL.out.kept hd)
    try replace SM := Lib.hid (SM.out.kept hd)
    clear hd
    have b0 := V4.out.cell (i := 0) (v := .int .i64 b.size) rfl
    have b1 := V4.out.cell (i := 1) (v := .string b.premium) rfl
    have b2 := V4.out.cell (i := 2) (v := .string b.cells) rfl
    have p0 := V5.out.cell (i := 0) (v := .int .i64 p.row) rfl
    have p1 := V5.out.cell (i := 1) (v := .int .i64 p.col) rfl
    have p2 := V5.out.cell (i := 2) (v := .bool p.down) rfl
    have p3 := V5.out.cell (i := 3) (v := .string p.word) rfl
    go_wp2_with fail
    refine (HK.out.pu2 w12).mono ?_
    rintro e w13 ⟨rfl, hd⟩
    clear b0 b1 b2 p0 p1 p2 p3
    replace hb := hb.trans (Below.mono hd hb.size)
    replace V3 := Lib.hid (V3.out.kept hd)
    replace V4 := Lib.hid (V4.out.kept hd)
    replace V5 := Lib.hid (V5.out.kept hd)
    replace AX := Lib.hid (AX.out.kept hd)
    try replace SP := Lib.hid (SP.out.kept hd)
    try replace SQ := Lib.hid (SQ.out.kept hd)
    try replace SL := Lib.hid (SL.out.kept hd)
    try replace SM := Lib.hid (SM.out.kept hd)
    clear hd
    have hshP := HK.out.shortP
    have hshL := HK.out.shortL
    have HGD := Lib.hid HK.out.good
    clear HK
    have hT : (pr.toList != pr.toList) = false := bne_self_eq_false _
    go_wp2_with fail
    refine (f6ints_any P aP aQ cP cQ _ SP.out SQ.out (by omega)).mono ?_
    rintro e w14 ⟨rfl, hd⟩
    replace hb := hb.trans (Below.mono hd hb.size)
    replace V3 := Lib.hid (V3.out.kept hd)
    replace V4 := Lib.hid (V4.out.kept hd)
    replace V5 := Lib.hid (V5.out.kept hd)
    replace AX := Lib.hid (AX.out.kept hd)
    try replace SP := Lib.hid (SP.out.kept hd)
    try replace SQ := Lib.hid (SQ.out.kept hd)
    try replace SL := Lib.hid (SL.out.kept hd)
    try replace SM := Lib.hid (SM.out.kept hd)
    clear hd SQ
    go_wp2_with fail
    refine (f6ints_any L aL aM cL cM _ SL.out SM.out (by omega)).mono ?_
    rintro e w15 ⟨rfl, hd⟩
    replace hb := hb.trans (Below.mono hd hb.size)
    replace V3 := Lib.hid (V3.out.kept hd)
    replace V4 := Lib.hid (V4.out.kept hd)
    replace V5 := Lib.hid (V5.out.kept hd)
    replace AX := Lib.hid (AX.out.kept hd)
    try replace SP := Lib.hid (SP.out.kept hd)
    try replace SQ := Lib.hid (SQ.out.kept hd)
    try replace SL := Lib.hid (SL.out.kept hd)
    try replace SM := Lib.hid (SM.out.kept hd)
    clear hd SM
    by_cases hcd : cd = 0
    · obtain ⟨m, X, E, P2, v, K1⟩ := HGD.out hcd
      have HG := Lib.hid K1
      clear K1 HGD
      subst hcd
      have HFP := Lib.hid HG.out.fitP
      have HFL := Lib.hid HG.out.fitL
      have hfP := HG.out.few
      have hfL := HG.out.fewL
      have HTO := Lib.hid HG.out.total
      go_wp2_with fail
      clear hT
      obtain ⟨wo, hwo⟩ : ∃ wo : World, wo = w15 := ⟨_, rfl⟩
      go_loopw [26, 27] (fun sv iv wr => ∃ k : Nat, k ≤ P.length ∧ iv = .int .i64 k ∧ sv = .int .i64 (P.take k).sum ∧ wo = wr) (fun _ iv _ => P.length - (intOf iv).toNat)
      case atStart => exact ⟨0, Nat.zero_le _, rfl, rfl, hwo⟩
      case round =>
        obtain ⟨k, hk9, rfl, rfl, hwr⟩ := hrel
        subst hwr
        subst hwo
        by_cases hlt : k < P.length
        · obtain ⟨mb, mo, e9, hc⟩ := SP.out.open hlt
          subst e9
          have c0 := hc.at0 hlt rfl
          rw [Nat.mul_one] at c0
          have hsn := sum_snoc hlt
          have hr1 := HFP.out (k + 1) (by omega)
          rw [hsn] at hr1
          have hwr : IntKind.i64.wrap ((P.take k).sum + P[k]) = (P.take (k + 1)).sum := by rw [hsn]; exact IntWalk.i64_in _ (by omega)
          have hkI : (k : Int) < (P.length : Int) := by omega
          have hk0 : (0 : Int) ≤ (k : Int) := by omega
          clear hc hsn hr1 HG HFP HFL SP SL HTO
          go_wp2
          go_roundw
          case rel => exact ⟨k + 1, by omega, by go_num, rfl, by trivial⟩
          case measure => simp [intOf]; omega
        · obtain rfl : k = P.length := by omega
          rw [List.take_length]
          clear HFP
          go_wp2_with fail
          go_loopw [28, 29] (fun sv iv wr => ∃ k : Nat, k ≤ L.length ∧ iv = .int .i64 k ∧ sv = .int .i64 (L.take k).sum ∧ wo = wr) (fun _ iv _ => L.length - (intOf iv).toNat)
          case atStart => exact ⟨0, Nat.zero_le _, rfl, rfl, rfl⟩
          case round =>
            obtain ⟨k, hk8, rfl, rfl, hwr⟩ := hrel
            subst hwr
            by_cases hlt2 : k < L.length
            · obtain ⟨mb, mo, e9, hc⟩ := SL.out.open hlt2
              subst e9
              have c0 := hc.at0 hlt2 rfl
              rw [Nat.mul_one] at c0
              have hsn := sum_snoc hlt2
              have hr1 := HFL.out (k + 1) (by omega)
              rw [hsn] at hr1
              have hwr : IntKind.i64.wrap ((L.take k).sum + L[k]) = (L.take (k + 1)).sum := by rw [hsn]; exact IntWalk.i64_in _ (by omega)
              have hkI : (k : Int) < (L.length : Int) := by omega
              have hk0 : (0 : Int) ≤ (k : Int) := by omega
              clear hc hsn hr1 HG HFL SP SL HTO
              go_wp2
              go_roundw
              case rel => exact ⟨k + 1, by omega, by go_num, rfl, by trivial⟩
              case measure => simp [intOf]; omega
            · obtain rfl : k = L.length := by omega
              rw [List.take_length]
              clear HFL
              have hnr : n ≤ 1099511627777 + 50 ∧ 0 ≤ n := by
                have h1 := HG.out.fitP P.length (Nat.le_refl _)
                rw [List.take_length] at h1
                have h2 := HTO.out
                split at h2 <;> omega
              by_cases h7 : pr.size = 7
              · have h7I : ((pr.size : Int) == 7) = true := by rw [beq_iff_eq]; omega
                have w50 : IntKind.i64.wrap (P.sum + 50) = n := by
                  have h2 := HTO.out
                  rw [if_pos h7] at h2
                  rw [← h2]
                  exact IntWalk.i64_in _ (by omega)
                clear HTO h7
                go_upto_region 30 with fail
                clear h7I w50
                have b0 := V4.out.cell (i := 0) (v := .int .i64 b.size) rfl
                have b1 := V4.out.cell (i := 1) (v := .string b.premium) rfl
                have b2 := V4.out.cell (i := 2) (v := .string b.cells) rfl
                have p0 := V5.out.cell (i := 0) (v := .int .i64 p.row) rfl
                have p1 := V5.out.cell (i := 1) (v := .int .i64 p.col) rfl
                have p2 := V5.out.cell (i := 2) (v := .bool p.down) rfl
                have p3 := V5.out.cell (i := 3) (v := .string p.word) rfl
                go_wp2_with fail
                refine (HG.out.wd _ (HE.out.kept hb)).mono ?_
                rintro e w20 ⟨g30, c30, rfl, hd⟩
                clear b0 b1 b2 p0 p1 p2 p3
                replace hb := hb.trans (Below.mono hd hb.size)
                replace V3 := Lib.hid (V3.out.kept hd)
                replace V4 := Lib.hid (V4.out.kept hd)
                replace V5 := Lib.hid (V5.out.kept hd)
                replace AX := Lib.hid (AX.out.kept hd)
                try replace SP := Lib.hid (SP.out.kept hd)
                try replace SQ := Lib.hid (SQ.out.kept hd)
                try replace SL := Lib.hid (SL.out.kept hd)
                try replace SM := Lib.hid (SM.out.kept hd)
                clear hd
                have b0 := V4.out.cell (i := 0) (v := .int .i64 b.size) rfl
                have b1 := V4.out.cell (i := 1) (v := .string b.premium) rfl
                have b2 := V4.out.cell (i := 2) (v := .string b.cells) rfl
                go_wp2_with fail
                refine (HG.out.tb _).mono ?_
                rintro e w21 ⟨rfl, hd⟩
                clear b0 b1 b2
                replace hb := hb.trans (Below.mono hd hb.size)
                replace V3 := Lib.hid (V3.out.kept hd)
                replace V4 := Lib.hid (V4.out.kept hd)
                replace V5 := Lib.hid (V5.out.kept hd)
                replace AX := Lib.hid (AX.out.kept hd)
                try replace SP := Lib.hid (SP.out.kept hd)
                try replace SQ := Lib.hid (SQ.out.kept hd)
                try replace SL := Lib.hid (SL.out.kept hd)
                try replace SM := Lib.hid (SM.out.kept hd)
                clear hd
                have hx : Below w21.heap.size w21 (w21.alloc (.cells #[.int .i64 X.size, .string X.premium, .string X.cells] 25)) := (Below.refl _ _).alloc (Nat.le_refl _) _
                have VX := Lib.hid (VarAt.new w21 25 [.int .i64 X.size, .string X.premium, .string X.cells])
                replace hb := hb.trans (Below.mono hx hb.size)
                replace V3 := Lib.hid (V3.out.kept hx)
                replace V4 := Lib.hid (V4.out.kept hx)
                replace V5 := Lib.hid (V5.out.kept hx)
                replace AX := Lib.hid (AX.out.kept hx)
                try replace SP := Lib.hid (SP.out.kept hx)
                try replace SQ := Lib.hid (SQ.out.kept hx)
                try replace SL := Lib.hid (SL.out.kept hx)
                try replace SM := Lib.hid (SM.out.kept hx)
                clear hx
                go_upto_region 32 with fail
                generalize w21.alloc (.cells #[.int .i64 X.size, .string X.premium, .string X.cells] 25) = w22 at *
                generalize w21.heap.size = B32 at *
                have t0 := V3.out.cell (i := 0) (v := .string x.letters) rfl
                have t1 := V3.out.cell (i := 1) (v := .slice q.values.a x.values.length q.values.c) rfl
                have t2 := V3.out.cell (i := 2) (v := .slice q.counts.a x.counts.length q.counts.c) rfl
                have t3 := V3.out.cell (i := 3) (v := .int .i64 x.blanks) rfl
                have p0 := V5.out.cell (i := 0) (v := .int .i64 p.row) rfl
                have p1 := V5.out.cell (i := 1) (v := .int .i64 p.col) rfl
                have p2 := V5.out.cell (i := 2) (v := .bool p.down) rfl
                have p3 := V5.out.cell (i := 3) (v := .string p.word) rfl
                have x0 := VX.out.cell (i := 0) (v := .int .i64 X.size) rfl
                have x1 := VX.out.cell (i := 1) (v := .string X.premium) rfl
                have x2 := VX.out.cell (i := 2) (v := .string X.cells) rfl
                have et0 := cell_regrown t0
                have et1 := cell_regrown t1
                have et2 := cell_regrown t2
                have et3 := cell_regrown t3
                have ep0 := cell_regrown p0
                have ep1 := cell_regrown p1
                have ep2 := cell_regrown p2
                have ep3 := cell_regrown p3
                have ex0 := cell_regrown x0
                have ex1 := cell_regrown x1
                have ex2 := cell_regrown x2
                have HEW := Lib.hid (HE.out.kept hb)
                refine wp_region_quiet_below (by kernel_rfl) (by kernel_rfl) ?_
                repeat (go_big_quiet_step ((first
                  | (go_at_call 14; exact Calls.regrown_of (HG.out.tq _))
                  | (go_at_call 22; exact Calls.regrown_of (HG.out.sp3 _ (AX.out.kept (below_regrown _ _ _)) (HEW.out.kept (below_regrown _ _ _)))))))
                refine wpQuiet_nil ?_
                intro w23 hw'
                have hd : Below w22.heap.size w22 w23 := below_of_ex hw'
                clear hw' et0 et1 et2 et3 ep0 ep1 ep2 ep3 ex0 ex1 ex2 t0 t1 t2 t3 p0 p1 p2 p3 x0 x1 x2 HEW VX
                replace hb := hb.trans (Below.mono hd hb.size)
                replace V3 := Lib.hid (V3.out.kept hd)
                replace V4 := Lib.hid (V4.out.kept hd)
                replace V5 := Lib.hid (V5.out.kept hd)
                replace AX := Lib.hid (AX.out.kept hd)
                try replace SP := Lib.hid (SP.out.kept hd)
                try replace SQ := Lib.hid (SQ.out.kept hd)
                try replace SL := Lib.hid (SL.out.kept hd)
                try replace SM := Lib.hid (SM.out.kept hd)
                clear hd
                have b0 := V4.out.cell (i := 0) (v := .int .i64 b.size) rfl
                have b1 := V4.out.cell (i := 1) (v := .string b.premium) rfl
                have b2 := V4.out.cell (i := 2) (v := .string b.cells) rfl
                go_wp2_with fail
                refine (HG.out.eb _).mono ?_
                rintro e w24 ⟨rfl, hd⟩
                clear b0 b1 b2
                replace hb := hb.trans (Below.mono hd hb.size)
                replace V3 := Lib.hid (V3.out.kept hd)
                replace V4 := Lib.hid (V4.out.kept hd)
                replace V5 := Lib.hid (V5.out.kept hd)
                replace AX := Lib.hid (AX.out.kept hd)
                try replace SP := Lib.hid (SP.out.kept hd)
                try replace SQ := Lib.hid (SQ.out.kept hd)
                try replace SL := Lib.hid (SL.out.kept hd)
                try replace SM := Lib.hid (SM.out.kept hd)
                clear hd
                have hx : Below w24.heap.size w24 (w24.alloc (.cells #[.int .i64 E.size, .string E.premium, .string E.cells] 25)) := (Below.refl _ _).alloc (Nat.le_refl _) _
                have VE := Lib.hid (VarAt.new w24 25 [.int .i64 E.size, .string E.premium, .string E.cells])
                replace hb := hb.trans (Below.mono hx hb.size)
                replace V3 := Lib.hid (V3.out.kept hx)
                replace V4 := Lib.hid (V4.out.kept hx)
                replace V5 := Lib.hid (V5.out.kept hx)
                replace AX := Lib.hid (AX.out.kept hx)
                try replace SP := Lib.hid (SP.out.kept hx)
                try replace SQ := Lib.hid (SQ.out.kept hx)
                try replace SL := Lib.hid (SL.out.kept hx)
                try replace SM := Lib.hid (SM.out.kept hx)
                clear hx
                go_upto_region 34 with fail
                generalize w24.alloc (.cells #[.int .i64 E.size, .string E.premium, .string E.cells] 25) = w25 at *
                generalize w24.heap.size = B36 at *
                have t0 := V3.out.cell (i := 0) (v := .string x.letters) rfl
                have t1 := V3.out.cell (i := 1) (v := .slice q.values.a x.values.length q.values.c) rfl
                have t2 := V3.out.cell (i := 2) (v := .slice q.counts.a x.counts.length q.counts.c) rfl
                have t3 := V3.out.cell (i := 3) (v := .int .i64 x.blanks) rfl
                have b0 := V4.out.cell (i := 0) (v := .int .i64 b.size) rfl
                have b1 := V4.out.cell (i := 1) (v := .string b.premium) rfl
                have b2 := V4.out.cell (i := 2) (v := .string b.cells) rfl
                have p0 := V5.out.cell (i := 0) (v := .int .i64 p.row) rfl
                have p1 := V5.out.cell (i := 1) (v := .int .i64 p.col) rfl
                have p2 := V5.out.cell (i := 2) (v := .bool p.down) rfl
                have p3 := V5.out.cell (i := 3) (v := .string p.word) rfl
                have x1 := VE.out.cell (i := 1) (v := .string E.premium) rfl
                go_wp2_with fail
                refine (HG.out.sp4 _ AX.out (HE.out.kept hb)).mono ?_
                rintro e w26 ⟨g38, c38, rfl, h38, hd⟩
                clear t0 t1 t2 t3 b0 b1 b2 p0 p1 p2 p3
                clear x1 VE
                replace hb := hb.trans (Below.mono hd hb.size)
                replace V3 := Lib.hid (V3.out.kept hd)
                replace V4 := Lib.hid (V4.out.kept hd)
                replace V5 := Lib.hid (V5.out.kept hd)
                replace AX := Lib.hid (AX.out.kept hd)
                try replace SP := Lib.hid (SP.out.kept hd)
                try replace SQ := Lib.hid (SQ.out.kept hd)
                try replace SL := Lib.hid (SL.out.kept hd)
                try replace SM := Lib.hid (SM.out.kept hd)
                have S2 := Lib.hid h38
                clear hd h38
                have hpos := HG.out.pos
                have hl2 := HG.out.len2
                obtain ⟨mb, mo, rfl, hc⟩ := SP.out.open hpos
                have c0 := hc.at0 hpos rfl
                obtain ⟨_, _, e9, hc2⟩ := S2.out.open (k := 0) (by omega)
                cases e9
                have d0 := hc2.at0 (show 0 < P2.length by omega) rfl
                simp only [Nat.zero_mul, Nat.add_zero] at c0 d0
                clear hc hc2
                have hm : P[0] = L.sum * fc := by
                  have := HG.out.main
                  rw [List.getD_eq_getElem?_getD, List.getElem?_eq_getElem hpos] at this
                  exact this
                have hv : P2[0]'(by omega) = v := by
                  have := HG.out.first2
                  rw [List.getD_eq_getElem?_getD, List.getElem?_eq_getElem (show 0 < P2.length by omega)] at this
                  exact this
                rw [hm] at c0
                rw [hv] at d0
                have wm : IntKind.i64.wrap (L.sum * fc) = L.sum * fc := by have h1 := HG.out.mlo; have h2 := HG.out.mhi; exact IntWalk.i64_in _ (by omega)
                have hposI : (0 : Int) < (P.length : Int) := by omega
                clear hm hv hl2 SL S2
                go_upto_region 35 with fail
                have t0 := V3.out.cell (i := 0) (v := .string x.letters) rfl
                have t1 := V3.out.cell (i := 1) (v := .slice q.values.a x.values.length q.values.c) rfl
                have t2 := V3.out.cell (i := 2) (v := .slice q.counts.a x.counts.length q.counts.c) rfl
                have t3 := V3.out.cell (i := 3) (v := .int .i64 x.blanks) rfl
                have p0 := V5.out.cell (i := 0) (v := .int .i64 p.row) rfl
                have p1 := V5.out.cell (i := 1) (v := .int .i64 p.col) rfl
                have p2 := V5.out.cell (i := 2) (v := .bool p.down) rfl
                have p3 := V5.out.cell (i := 3) (v := .string p.word) rfl
                have et0 := cell_regrown t0
                have et1 := cell_regrown t1
                have et2 := cell_regrown t2
                have et3 := cell_regrown t3
                have ep3 := cell_regrown p3
                have ec0 := cell_regrown c0
                have ed0 := cell_regrown d0
                have HLV := Lib.hid HG.out.lv
                clear HG HE
                have hmm : (L.sum * fc == L.sum * fc) = true := beq_self_eq_true _
                refine wp_region_quiet_below (by kernel_rfl) (by kernel_rfl) ?_
                repeat (go_big_quiet_step ((first
                  | (go_at_call 34; exact Calls.regrown_of (HLV.out _ (AX.out.kept (below_regrown _ _ _)))))))
                refine wpQuiet_nil ?_
                intro w27 hw'
                have hd : Below w26.heap.size w26 w27 := below_of_ex hw'
                have hb9 := hb.trans (hd.mono hb.size)
                clear hw' hmm et0 et1 et2 et3 ep3 ec0 ed0 t0 t1 t2 t3 p0 p1 p2 p3 c0 d0 hd hb V3 V4 V5 SP AX
                go_wp2
                go_ret
                exact ⟨rfl, hb9⟩
              · have h7I : ((pr.size : Int) == 7) = false := by rw [beq_eq_false_iff_ne]; omega
                have hs : P.sum = n := by
                  have h2 := HTO.out
                  rw [if_neg h7] at h2
                  omega
                rw [hs]
                clear HTO h7 hs
                go_upto_region 30 with fail
                clear h7I
                have b0 := V4.out.cell (i := 0) (v := .int .i64 b.size) rfl
                have b1 := V4.out.cell (i := 1) (v := .string b.premium) rfl
                have b2 := V4.out.cell (i := 2) (v := .string b.cells) rfl
                have p0 := V5.out.cell (i := 0) (v := .int .i64 p.row) rfl
                have p1 := V5.out.cell (i := 1) (v := .int .i64 p.col) rfl
                have p2 := V5.out.cell (i := 2) (v := .bool p.down) rfl
                have p3 := V5.out.cell (i := 3) (v := .string p.word) rfl
                go_wp2_with fail
                refine (HG.out.wd _ (HE.out.kept hb)).mono ?_
                rintro e w20 ⟨g30, c30, rfl, hd⟩
                clear b0 b1 b2 p0 p1 p2 p3
                replace hb := hb.trans (Below.mono hd hb.size)
                replace V3 := Lib.hid (V3.out.kept hd)
                replace V4 := Lib.hid (V4.out.kept hd)
                replace V5 := Lib.hid (V5.out.kept hd)
                replace AX := Lib.hid (AX.out.kept hd)
                try replace SP := Lib.hid (SP.out.kept hd)
                try replace SQ := Lib.hid (SQ.out.kept hd)
                try replace SL := Lib.hid (SL.out.kept hd)
                try replace SM := Lib.hid (SM.out.kept hd)
                clear hd
                have b0 := V4.out.cell (i := 0) (v := .int .i64 b.size) rfl
                have b1 := V4.out.cell (i := 1) (v := .string b.premium) rfl
                have b2 := V4.out.cell (i := 2) (v := .string b.cells) rfl
                go_wp2_with fail
                refine (HG.out.tb _).mono ?_
                rintro e w21 ⟨rfl, hd⟩
                clear b0 b1 b2
                replace hb := hb.trans (Below.mono hd hb.size)
                replace V3 := Lib.hid (V3.out.kept hd)
                replace V4 := Lib.hid (V4.out.kept hd)
                replace V5 := Lib.hid (V5.out.kept hd)
                replace AX := Lib.hid (AX.out.kept hd)
                try replace SP := Lib.hid (SP.out.kept hd)
                try replace SQ := Lib.hid (SQ.out.kept hd)
                try replace SL := Lib.hid (SL.out.kept hd)
                try replace SM := Lib.hid (SM.out.kept hd)
                clear hd
                have hx : Below w21.heap.size w21 (w21.alloc (.cells #[.int .i64 X.size, .string X.premium, .string X.cells] 25)) := (Below.refl _ _).alloc (Nat.le_refl _) _
                have VX := Lib.hid (VarAt.new w21 25 [.int .i64 X.size, .string X.premium, .string X.cells])
                replace hb := hb.trans (Below.mono hx hb.size)
                replace V3 := Lib.hid (V3.out.kept hx)
                replace V4 := Lib.hid (V4.out.kept hx)
                replace V5 := Lib.hid (V5.out.kept hx)
                replace AX := Lib.hid (AX.out.kept hx)
                try replace SP := Lib.hid (SP.out.kept hx)
                try replace SQ := Lib.hid (SQ.out.kept hx)
                try replace SL := Lib.hid (SL.out.kept hx)
                try replace SM := Lib.hid (SM.out.kept hx)
                clear hx
                go_upto_region 32 with fail
                generalize w21.alloc (.cells #[.int .i64 X.size, .string X.premium, .string X.cells] 25) = w22 at *
                generalize w21.heap.size = B32 at *
                have t0 := V3.out.cell (i := 0) (v := .string x.letters) rfl
                have t1 := V3.out.cell (i := 1) (v := .slice q.values.a x.values.length q.values.c) rfl
                have t2 := V3.out.cell (i := 2) (v := .slice q.counts.a x.counts.length q.counts.c) rfl
                have t3 := V3.out.cell (i := 3) (v := .int .i64 x.blanks) rfl
                have p0 := V5.out.cell (i := 0) (v := .int .i64 p.row) rfl
                have p1 := V5.out.cell (i := 1) (v := .int .i64 p.col) rfl
                have p2 := V5.out.cell (i := 2) (v := .bool p.down) rfl
                have p3 := V5.out.cell (i := 3) (v := .string p.word) rfl
                have x0 := VX.out.cell (i := 0) (v := .int .i64 X.size) rfl
                have x1 := VX.out.cell (i := 1) (v := .string X.premium) rfl
                have x2 := VX.out.cell (i := 2) (v := .string X.cells) rfl
                have et0 := cell_regrown t0
                have et1 := cell_regrown t1
                have et2 := cell_regrown t2
                have et3 := cell_regrown t3
                have ep0 := cell_regrown p0
                have ep1 := cell_regrown p1
                have ep2 := cell_regrown p2
                have ep3 := cell_regrown p3
                have ex0 := cell_regrown x0
                have ex1 := cell_regrown x1
                have ex2 := cell_regrown x2
                have HEW := Lib.hid (HE.out.kept hb)
                refine wp_region_quiet_below (by kernel_rfl) (by kernel_rfl) ?_
                repeat (go_big_quiet_step ((first
                  | (go_at_call 14; exact Calls.regrown_of (HG.out.tq _))
                  | (go_at_call 22; exact Calls.regrown_of (HG.out.sp3 _ (AX.out.kept (below_regrown _ _ _)) (HEW.out.kept (below_regrown _ _ _)))))))
                refine wpQuiet_nil ?_
                intro w23 hw'
                have hd : Below w22.heap.size w22 w23 := below_of_ex hw'
                clear hw' et0 et1 et2 et3 ep0 ep1 ep2 ep3 ex0 ex1 ex2 t0 t1 t2 t3 p0 p1 p2 p3 x0 x1 x2 HEW VX
                replace hb := hb.trans (Below.mono hd hb.size)
                replace V3 := Lib.hid (V3.out.kept hd)
                replace V4 := Lib.hid (V4.out.kept hd)
                replace V5 := Lib.hid (V5.out.kept hd)
                replace AX := Lib.hid (AX.out.kept hd)
                try replace SP := Lib.hid (SP.out.kept hd)
                try replace SQ := Lib.hid (SQ.out.kept hd)
                try replace SL := Lib.hid (SL.out.kept hd)
                try replace SM := Lib.hid (SM.out.kept hd)
                clear hd
                have b0 := V4.out.cell (i := 0) (v := .int .i64 b.size) rfl
                have b1 := V4.out.cell (i := 1) (v := .string b.premium) rfl
                have b2 := V4.out.cell (i := 2) (v := .string b.cells) rfl
                go_wp2_with fail
                refine (HG.out.eb _).mono ?_
                rintro e w24 ⟨rfl, hd⟩
                clear b0 b1 b2
                replace hb := hb.trans (Below.mono hd hb.size)
                replace V3 := Lib.hid (V3.out.kept hd)
                replace V4 := Lib.hid (V4.out.kept hd)
                replace V5 := Lib.hid (V5.out.kept hd)
                replace AX := Lib.hid (AX.out.kept hd)
                try replace SP := Lib.hid (SP.out.kept hd)
                try replace SQ := Lib.hid (SQ.out.kept hd)
                try replace SL := Lib.hid (SL.out.kept hd)
                try replace SM := Lib.hid (SM.out.kept hd)
                clear hd
                have hx : Below w24.heap.size w24 (w24.alloc (.cells #[.int .i64 E.size, .string E.premium, .string E.cells] 25)) := (Below.refl _ _).alloc (Nat.le_refl _) _
                have VE := Lib.hid (VarAt.new w24 25 [.int .i64 E.size, .string E.premium, .string E.cells])
                replace hb := hb.trans (Below.mono hx hb.size)
                replace V3 := Lib.hid (V3.out.kept hx)
                replace V4 := Lib.hid (V4.out.kept hx)
                replace V5 := Lib.hid (V5.out.kept hx)
                replace AX := Lib.hid (AX.out.kept hx)
                try replace SP := Lib.hid (SP.out.kept hx)
                try replace SQ := Lib.hid (SQ.out.kept hx)
                try replace SL := Lib.hid (SL.out.kept hx)
                try replace SM := Lib.hid (SM.out.kept hx)
                clear hx
                go_upto_region 34 with fail
                generalize w24.alloc (.cells #[.int .i64 E.size, .string E.premium, .string E.cells] 25) = w25 at *
                generalize w24.heap.size = B36 at *
                have t0 := V3.out.cell (i := 0) (v := .string x.letters) rfl
                have t1 := V3.out.cell (i := 1) (v := .slice q.values.a x.values.length q.values.c) rfl
                have t2 := V3.out.cell (i := 2) (v := .slice q.counts.a x.counts.length q.counts.c) rfl
                have t3 := V3.out.cell (i := 3) (v := .int .i64 x.blanks) rfl
                have b0 := V4.out.cell (i := 0) (v := .int .i64 b.size) rfl
                have b1 := V4.out.cell (i := 1) (v := .string b.premium) rfl
                have b2 := V4.out.cell (i := 2) (v := .string b.cells) rfl
                have p0 := V5.out.cell (i := 0) (v := .int .i64 p.row) rfl
                have p1 := V5.out.cell (i := 1) (v := .int .i64 p.col) rfl
                have p2 := V5.out.cell (i := 2) (v := .bool p.down) rfl
                have p3 := V5.out.cell (i := 3) (v := .string p.word) rfl
                have x1 := VE.out.cell (i := 1) (v := .string E.premium) rfl
                go_wp2_with fail
                refine (HG.out.sp4 _ AX.out (HE.out.kept hb)).mono ?_
                rintro e w26 ⟨g38, c38, rfl, h38, hd⟩
                clear t0 t1 t2 t3 b0 b1 b2 p0 p1 p2 p3
                clear x1 VE
                replace hb := hb.trans (Below.mono hd hb.size)
                replace V3 := Lib.hid (V3.out.kept hd)
                replace V4 := Lib.hid (V4.out.kept hd)
                replace V5 := Lib.hid (V5.out.kept hd)
                replace AX := Lib.hid (AX.out.kept hd)
                try replace SP := Lib.hid (SP.out.kept hd)
                try replace SQ := Lib.hid (SQ.out.kept hd)
                try replace SL := Lib.hid (SL.out.kept hd)
                try replace SM := Lib.hid (SM.out.kept hd)
                have S2 := Lib.hid h38
                clear hd h38
                have hpos := HG.out.pos
                have hl2 := HG.out.len2
                obtain ⟨mb, mo, rfl, hc⟩ := SP.out.open hpos
                have c0 := hc.at0 hpos rfl
                obtain ⟨_, _, e9, hc2⟩ := S2.out.open (k := 0) (by omega)
                cases e9
                have d0 := hc2.at0 (show 0 < P2.length by omega) rfl
                simp only [Nat.zero_mul, Nat.add_zero] at c0 d0
                clear hc hc2
                have hm : P[0] = L.sum * fc := by
                  have := HG.out.main
                  rw [List.getD_eq_getElem?_getD, List.getElem?_eq_getElem hpos] at this
                  exact this
                have hv : P2[0]'(by omega) = v := by
                  have := HG.out.first2
                  rw [List.getD_eq_getElem?_getD, List.getElem?_eq_getElem (show 0 < P2.length by omega)] at this
                  exact this
                rw [hm] at c0
                rw [hv] at d0
                have wm : IntKind.i64.wrap (L.sum * fc) = L.sum * fc := by have h1 := HG.out.mlo; have h2 := HG.out.mhi; exact IntWalk.i64_in _ (by omega)
                have hposI : (0 : Int) < (P.length : Int) := by omega
                clear hm hv hl2 SL S2
                go_upto_region 35 with fail
                have t0 := V3.out.cell (i := 0) (v := .string x.letters) rfl
                have t1 := V3.out.cell (i := 1) (v := .slice q.values.a x.values.length q.values.c) rfl
                have t2 := V3.out.cell (i := 2) (v := .slice q.counts.a x.counts.length q.counts.c) rfl
                have t3 := V3.out.cell (i := 3) (v := .int .i64 x.blanks) rfl
                have p0 := V5.out.cell (i := 0) (v := .int .i64 p.row) rfl
                have p1 := V5.out.cell (i := 1) (v := .int .i64 p.col) rfl
                have p2 := V5.out.cell (i := 2) (v := .bool p.down) rfl
                have p3 := V5.out.cell (i := 3) (v := .string p.word) rfl
                have et0 := cell_regrown t0
                have et1 := cell_regrown t1
                have et2 := cell_regrown t2
                have et3 := cell_regrown t3
                have ep3 := cell_regrown p3
                have ec0 := cell_regrown c0
                have ed0 := cell_regrown d0
                have HLV := Lib.hid HG.out.lv
                clear HG HE
                have hmm : (L.sum * fc == L.sum * fc) = true := beq_self_eq_true _
                refine wp_region_quiet_below (by kernel_rfl) (by kernel_rfl) ?_
                repeat (go_big_quiet_step ((first
                  | (go_at_call 34; exact Calls.regrown_of (HLV.out _ (AX.out.kept (below_regrown _ _ _)))))))
                refine wpQuiet_nil ?_
                intro w27 hw'
                have hd : Below w26.heap.size w26 w27 := below_of_ex hw'
                have hb9 := hb.trans (hd.mono hb.size)
                clear hw' hmm et0 et1 et2 et3 ep3 ec0 ed0 t0 t1 t2 t3 p0 p1 p2 p3 c0 d0 hd hb V3 V4 V5 SP AX
                go_wp2
                go_ret
                exact ⟨rfl, hb9⟩
    · have hcn : (cd != 0) = true := by simp [hcd]
      clear HGD V3 V4 V5 AX SP SL
      go_wp2
      go_ret
      exact ⟨rfl, hb⟩
end Go.Proofs.YtjdcdhhbgijaoaaGreatDoor
