/- The law of FnPlayOrder: for every code the statement's own function answers true. Leans on Go's tables (CEnv, Env). -/
import Derived.Test.YtjdcdhhbgijaoaaGreatDoorPtH
import Derived.Deep.DeepCutAuto
import Derived.Deep.CutBlock
namespace Go.Proofs.YtjdcdhhbgijaoaaGreatDoor
open Go.ChangeShapes Go.WideShapes Go.ChangeAt Go.RowKit Go.Sort

set_option maxRecDepth 100000 in
set_option maxHeartbeats 8000000 in
theorem lawOrder_any (ca : Option Addr) (ccap : Nat) (bs : List Int) (w : World) (hs : SliceAt w 1 Byt.enc ca bs) (hbd : ∀ x ∈ bs, 0 ≤ x ∧ x ≤ 255) (hN : Env w) (hE : CEnv w) :
    Calls Tryz.prog 7 #[.slice ca bs.length ccap] w fun e w' => e = .returned (.bool true) ∧ Below w.heap.size w w' := by
  by_cases hbig : 4096 < bs.length
  · have hd : decide ((4096 : Int) < bs.length) = true := by rw [decide_eq_true_eq]; omega
    clear hs hbd hE hN
    go_enter Tryz.func7, Tryz.ntmps7
    go_wp2_with fail
    refine (f6big_ct ca bs.length ccap w).mono ?_
    rintro e w1 ⟨rfl, rfl⟩
    rw [hd]
    go_wp2
    go_ret
    exact ⟨rfl, Below.refl _ _⟩
  · have hd : decide ((4096 : Int) < bs.length) = false := by rw [decide_eq_false_iff_not]; omega
    have HC : Hid (CodeAt w w.heap.size ca bs) := Lib.hid ⟨hs, hbd, by omega, fun h0 cb co e => by
      obtain ⟨b', o', e', hc⟩ := hs.open h0
      rw [e] at e'
      simp only [Option.some.injEq, Addr.mk.injEq, and_true] at e'
      rw [e'.1]
      exact block_lt (hc.at0 h0 rfl)⟩
    have HE := Lib.hid hE
    have HN := Lib.hid hN
    clear hs hbd hE hN
    go_enter Tryz.func7, Tryz.ntmps7
    go_wp2_with fail
    refine (f6big_ct ca bs.length ccap w).mono ?_
    rintro e w1 ⟨rfl, rfl⟩
    rw [hd]
    clear hd hbig
    go_wp2_with fail
    refine (DrawComparePlays_any ca ccap bs w HC.out).mono ?_
    rintro e w2 ⟨p, q, hp, hq, rfl, hb⟩
    obtain ⟨t, k, ok, R, hK⟩ := orderK (q := q) hp
    have HK := Lib.hid hK
    clear hK hp hq
    have hd : Below w2.heap.size w2 ((w2.alloc (.cells #[.int .i64 p.row, .int .i64 p.col, .bool p.down, .string p.word] 30)).alloc (.cells #[.int .i64 q.row, .int .i64 q.col, .bool q.down, .string q.word] 30)) := ((Below.refl _ _).alloc (Nat.le_refl _) _).alloc (by simp) _
    have V3 := Lib.hid ((VarAt.new w2 30 [.int .i64 p.row, .int .i64 p.col, .bool p.down, .string p.word]).kept ((Below.refl _ _).alloc (Nat.le_refl _) (.cells #[.int .i64 q.row, .int .i64 q.col, .bool q.down, .string q.word] 30)))
    have V4 : Hid (VarAt ((w2.alloc (.cells #[.int .i64 p.row, .int .i64 p.col, .bool p.down, .string p.word] 30)).alloc (.cells #[.int .i64 q.row, .int .i64 q.col, .bool q.down, .string q.word] 30)) (w2.heap.size + 1) 30 [.int .i64 q.row, .int .i64 q.col, .bool q.down, .string q.word]) := by
      have := VarAt.new (w2.alloc (.cells #[.int .i64 p.row, .int .i64 p.col, .bool p.down, .string p.word] 30)) 30 [.int .i64 q.row, .int .i64 q.col, .bool q.down, .string q.word]
      simp only [World.size_alloc] at this
      exact Lib.hid this
    replace hb := hb.trans (hd.mono hb.size)
    clear hd
    generalize hB : w2.heap.size = B3 at *
    obtain ⟨w3, hw⟩ : ∃ wE, (w2.alloc (.cells #[.int .i64 p.row, .int .i64 p.col, .bool p.down, .string p.word] 30)).alloc (.cells #[.int .i64 q.row, .int .i64 q.col, .bool q.down, .string q.word] 30) = wE := ⟨_, rfl⟩
    rw [hw] at hb V3 V4
    have p0 := V3.out.cell (i := 0) (v := .int .i64 p.row) rfl
    have p1 := V3.out.cell (i := 1) (v := .int .i64 p.col) rfl
    have p2 := V3.out.cell (i := 2) (v := .bool p.down) rfl
    have p3 := V3.out.cell (i := 3) (v := .string p.word) rfl
    have q0 := V4.out.cell (i := 0) (v := .int .i64 q.row) rfl
    have q1 := V4.out.cell (i := 1) (v := .int .i64 q.col) rfl
    have q2 := V4.out.cell (i := 2) (v := .bool q.down) rfl
    have q3 := V4.out.cell (i := 3) (v := .string q.word) rfl
    go_wp2_with fail
    clear hw hB
    refine (HK.out.c1 w3).mono ?_
    rintro e w4 ⟨rfl, hd⟩
    clear p0 p1 p2 p3 q0 q1 q2 q3
    replace hb := hb.trans ((hd).mono hb.size)
    try replace V3 := Lib.hid (V3.out.kept hd)
    try replace V4 := Lib.hid (V4.out.kept hd)
    try replace V7 := Lib.hid (V7.out.kept hd)
    try replace V10 := Lib.hid (V10.out.kept hd)
    try replace V12 := Lib.hid (V12.out.kept hd)
    try replace V14 := Lib.hid (V14.out.kept hd)
    try replace V15 := Lib.hid (V15.out.kept hd)
    try replace V16 := Lib.hid (V16.out.kept hd)
    try replace SX := Lib.hid (SX.out.kept hd)
    try replace SU := Lib.hid (SU.out.kept hd)
    try replace SV := Lib.hid (SV.out.kept hd)
    clear hd
    have p0 := V3.out.cell (i := 0) (v := .int .i64 p.row) rfl
    have p1 := V3.out.cell (i := 1) (v := .int .i64 p.col) rfl
    have p2 := V3.out.cell (i := 2) (v := .bool p.down) rfl
    have p3 := V3.out.cell (i := 3) (v := .string p.word) rfl
    go_wp2_with fail
    refine (HK.out.t1 w4 (HE.out.kept hb) (HN.out.kept hb)).mono ?_
    rintro e w5 ⟨rfl, hd⟩
    clear p0 p1 p2 p3
    replace hb := hb.trans ((hd).mono hb.size)
    try replace V3 := Lib.hid (V3.out.kept hd)
    try replace V4 := Lib.hid (V4.out.kept hd)
    try replace V7 := Lib.hid (V7.out.kept hd)
    try replace V10 := Lib.hid (V10.out.kept hd)
    try replace V12 := Lib.hid (V12.out.kept hd)
    try replace V14 := Lib.hid (V14.out.kept hd)
    try replace V15 := Lib.hid (V15.out.kept hd)
    try replace V16 := Lib.hid (V16.out.kept hd)
    try replace SX := Lib.hid (SX.out.kept hd)
    try replace SU := Lib.hid (SU.out.kept hd)
    try replace SV := Lib.hid (SV.out.kept hd)
    clear hd
    go_wp2_with fail
    refine (HK.out.r1 w5 (HE.out.kept hb) (HN.out.kept hb)).mono ?_
    rintro e w6 ⟨rfl, hd⟩
    replace hb := hb.trans ((hd).mono hb.size)
    try replace V3 := Lib.hid (V3.out.kept hd)
    try replace V4 := Lib.hid (V4.out.kept hd)
    try replace V7 := Lib.hid (V7.out.kept hd)
    try replace V10 := Lib.hid (V10.out.kept hd)
    try replace V12 := Lib.hid (V12.out.kept hd)
    try replace V14 := Lib.hid (V14.out.kept hd)
    try replace V15 := Lib.hid (V15.out.kept hd)
    try replace V16 := Lib.hid (V16.out.kept hd)
    try replace SX := Lib.hid (SX.out.kept hd)
    try replace SU := Lib.hid (SU.out.kept hd)
    try replace SV := Lib.hid (SV.out.kept hd)
    clear hd
    have hd : Below w6.heap.size w6 (w6.alloc (.cells #[.int .i64 R.row, .int .i64 R.col, .bool R.down, .string R.word] 30)) := (Below.refl _ _).alloc (Nat.le_refl _) _
    have V7 := Lib.hid (VarAt.new w6 30 [.int .i64 R.row, .int .i64 R.col, .bool R.down, .string R.word])
    replace hb := hb.trans ((hd).mono hb.size)
    try replace V3 := Lib.hid (V3.out.kept hd)
    try replace V4 := Lib.hid (V4.out.kept hd)
    try replace V7 := Lib.hid (V7.out.kept hd)
    try replace V10 := Lib.hid (V10.out.kept hd)
    try replace V12 := Lib.hid (V12.out.kept hd)
    try replace V14 := Lib.hid (V14.out.kept hd)
    try replace V15 := Lib.hid (V15.out.kept hd)
    try replace V16 := Lib.hid (V16.out.kept hd)
    try replace SX := Lib.hid (SX.out.kept hd)
    try replace SU := Lib.hid (SU.out.kept hd)
    try replace SV := Lib.hid (SV.out.kept hd)
    clear hd
    generalize hB : w6.heap.size = B7 at *
    obtain ⟨w7, hw⟩ : ∃ wx, w6.alloc (.cells #[.int .i64 R.row, .int .i64 R.col, .bool R.down, .string R.word] 30) = wx := ⟨_, rfl⟩
    rw [hw] at V7
    rw [hw] at hb
    try rw [hw] at V3
    try rw [hw] at V4
    try rw [hw] at V7
    try rw [hw] at V10
    try rw [hw] at V12
    try rw [hw] at SX
    go_wp2_with fail
    clear hw hB
    refine (DrawReadPlay_any ca ccap bs w7 (HC.out.later hb)).mono ?_
    rintro e w8 ⟨u, hu, rfl, hd⟩
    obtain ⟨one, X, hK⟩ := readK hu
    have HR := Lib.hid hK
    clear hK hu
    replace hb := hb.trans ((hd).mono hb.size)
    try replace V3 := Lib.hid (V3.out.kept hd)
    try replace V4 := Lib.hid (V4.out.kept hd)
    try replace V7 := Lib.hid (V7.out.kept hd)
    try replace V10 := Lib.hid (V10.out.kept hd)
    try replace V12 := Lib.hid (V12.out.kept hd)
    try replace V14 := Lib.hid (V14.out.kept hd)
    try replace V15 := Lib.hid (V15.out.kept hd)
    try replace V16 := Lib.hid (V16.out.kept hd)
    try replace SX := Lib.hid (SX.out.kept hd)
    try replace SU := Lib.hid (SU.out.kept hd)
    try replace SV := Lib.hid (SV.out.kept hd)
    clear hd
    go_wp2_with fail
    refine (HR.out.r2 w8 (HE.out.kept hb) (HN.out.kept hb)).mono ?_
    rintro e w9 ⟨rfl, hd⟩
    replace hb := hb.trans ((hd).mono hb.size)
    try replace V3 := Lib.hid (V3.out.kept hd)
    try replace V4 := Lib.hid (V4.out.kept hd)
    try replace V7 := Lib.hid (V7.out.kept hd)
    try replace V10 := Lib.hid (V10.out.kept hd)
    try replace V12 := Lib.hid (V12.out.kept hd)
    try replace V14 := Lib.hid (V14.out.kept hd)
    try replace V15 := Lib.hid (V15.out.kept hd)
    try replace V16 := Lib.hid (V16.out.kept hd)
    try replace SX := Lib.hid (SX.out.kept hd)
    try replace SU := Lib.hid (SU.out.kept hd)
    try replace SV := Lib.hid (SV.out.kept hd)
    clear hd
    have hd : Below w9.heap.size w9 (w9.alloc (.cells #[.int .i64 X.row, .int .i64 X.col, .bool X.down, .string X.word] 30)) := (Below.refl _ _).alloc (Nat.le_refl _) _
    have V10 := Lib.hid (VarAt.new w9 30 [.int .i64 X.row, .int .i64 X.col, .bool X.down, .string X.word])
    replace hb := hb.trans ((hd).mono hb.size)
    try replace V3 := Lib.hid (V3.out.kept hd)
    try replace V4 := Lib.hid (V4.out.kept hd)
    try replace V7 := Lib.hid (V7.out.kept hd)
    try replace V10 := Lib.hid (V10.out.kept hd)
    try replace V12 := Lib.hid (V12.out.kept hd)
    try replace V14 := Lib.hid (V14.out.kept hd)
    try replace V15 := Lib.hid (V15.out.kept hd)
    try replace V16 := Lib.hid (V16.out.kept hd)
    try replace SX := Lib.hid (SX.out.kept hd)
    try replace SU := Lib.hid (SU.out.kept hd)
    try replace SV := Lib.hid (SV.out.kept hd)
    clear hd
    generalize hB : w9.heap.size = B10 at *
    obtain ⟨w10, hw⟩ : ∃ wx, w9.alloc (.cells #[.int .i64 X.row, .int .i64 X.col, .bool X.down, .string X.word] 30) = wx := ⟨_, rfl⟩
    rw [hw] at V10
    rw [hw] at hb
    try rw [hw] at V3
    try rw [hw] at V4
    try rw [hw] at V7
    try rw [hw] at V10
    try rw [hw] at V12
    try rw [hw] at SX
    go_wp2_with fail
    clear hw hB
    refine (HR.out.r3 w10).mono ?_
    rintro e w11 ⟨rfl, hd⟩
    replace hb := hb.trans ((hd).mono hb.size)
    try replace V3 := Lib.hid (V3.out.kept hd)
    try replace V4 := Lib.hid (V4.out.kept hd)
    try replace V7 := Lib.hid (V7.out.kept hd)
    try replace V10 := Lib.hid (V10.out.kept hd)
    try replace V12 := Lib.hid (V12.out.kept hd)
    try replace V14 := Lib.hid (V14.out.kept hd)
    try replace V15 := Lib.hid (V15.out.kept hd)
    try replace V16 := Lib.hid (V16.out.kept hd)
    try replace SX := Lib.hid (SX.out.kept hd)
    try replace SU := Lib.hid (SU.out.kept hd)
    try replace SV := Lib.hid (SV.out.kept hd)
    clear hd
    have hd : Below w11.heap.size w11 (w11.alloc (.cells #[.int .i64 X.row, .int .i64 X.col, .bool X.down, .string X.word] 30)) := (Below.refl _ _).alloc (Nat.le_refl _) _
    have V12 := Lib.hid (VarAt.new w11 30 [.int .i64 X.row, .int .i64 X.col, .bool X.down, .string X.word])
    replace hb := hb.trans ((hd).mono hb.size)
    try replace V3 := Lib.hid (V3.out.kept hd)
    try replace V4 := Lib.hid (V4.out.kept hd)
    try replace V7 := Lib.hid (V7.out.kept hd)
    try replace V10 := Lib.hid (V10.out.kept hd)
    try replace V12 := Lib.hid (V12.out.kept hd)
    try replace V14 := Lib.hid (V14.out.kept hd)
    try replace V15 := Lib.hid (V15.out.kept hd)
    try replace V16 := Lib.hid (V16.out.kept hd)
    try replace SX := Lib.hid (SX.out.kept hd)
    try replace SU := Lib.hid (SU.out.kept hd)
    try replace SV := Lib.hid (SV.out.kept hd)
    clear hd
    generalize hB : w11.heap.size = B12 at *
    obtain ⟨w12, hw⟩ : ∃ wx, w11.alloc (.cells #[.int .i64 X.row, .int .i64 X.col, .bool X.down, .string X.word] 30) = wx := ⟨_, rfl⟩
    rw [hw] at V12
    rw [hw] at hb
    try rw [hw] at V3
    try rw [hw] at V4
    try rw [hw] at V7
    try rw [hw] at V10
    try rw [hw] at V12
    try rw [hw] at SX
    go_wp2_with fail
    clear hw hB
    refine (DrawWrongWords_any ca ccap bs w12 (HC.out.later hb)).mono ?_
    rintro e w13 ⟨b, v, g, m, cap, ws, hP, hC, hW, rfl, hm, hy, rfl, hsx, hd⟩
    obtain ⟨L, c, hK⟩ := wrongK (b := b) (p := v) (g := g) (cap := cap) (ws := ws) ⟨by omega, by omega⟩ (by omega) (by omega) (fun x hx => Nat.le_trans (hy x hx) (by decide))
    have HW := Lib.hid hK
    have SX := Lib.hid hsx
    replace hb := hb.trans (hd.mono hb.size)
    replace V3 := Lib.hid (V3.out.kept hd)
    replace V4 := Lib.hid (V4.out.kept hd)
    replace V7 := Lib.hid (V7.out.kept hd)
    replace V10 := Lib.hid (V10.out.kept hd)
    replace V12 := Lib.hid (V12.out.kept hd)
    clear hK hsx hP hC hW hm hy hd
    have hd : Below w13.heap.size w13 (((w13.alloc (.cells #[.int .i64 b.size, .string b.premium, .string b.cells] 25)).alloc (.cells #[.slice (some ⟨g, 0, none⟩) ws.length cap] 28)).alloc (.cells #[.int .i64 v.row, .int .i64 v.col, .bool v.down, .string v.word] 30)) := (((Below.refl _ _).alloc (Nat.le_refl _) _).alloc (by simp) _).alloc (by simp; omega) _
    replace SX := Lib.hid (SX.out.kept hd)
    replace hb := hb.trans ((hd).mono hb.size)
    try replace V3 := Lib.hid (V3.out.kept hd)
    try replace V4 := Lib.hid (V4.out.kept hd)
    try replace V7 := Lib.hid (V7.out.kept hd)
    try replace V10 := Lib.hid (V10.out.kept hd)
    try replace V12 := Lib.hid (V12.out.kept hd)
    try replace V14 := Lib.hid (V14.out.kept hd)
    try replace V15 := Lib.hid (V15.out.kept hd)
    try replace V16 := Lib.hid (V16.out.kept hd)
    try replace SX := Lib.hid (SX.out.kept hd)
    try replace SU := Lib.hid (SU.out.kept hd)
    try replace SV := Lib.hid (SV.out.kept hd)
    have V14 := Lib.hid (((VarAt.new w13 25 [.int .i64 b.size, .string b.premium, .string b.cells]).kept ((Below.refl _ _).alloc (Nat.le_refl _) (.cells #[.slice (some ⟨g, 0, none⟩) ws.length cap] 28))).kept ((Below.refl _ _).alloc (Nat.le_refl _) (.cells #[.int .i64 v.row, .int .i64 v.col, .bool v.down, .string v.word] 30)))
    have V15 : Hid (VarAt (((w13.alloc (.cells #[.int .i64 b.size, .string b.premium, .string b.cells] 25)).alloc (.cells #[.slice (some ⟨g, 0, none⟩) ws.length cap] 28)).alloc (.cells #[.int .i64 v.row, .int .i64 v.col, .bool v.down, .string v.word] 30)) (w13.heap.size + 1) 28 [.slice (some ⟨g, 0, none⟩) ws.length cap]) := by
      have := (VarAt.new (w13.alloc (.cells #[.int .i64 b.size, .string b.premium, .string b.cells] 25)) 28 [.slice (some ⟨g, 0, none⟩) ws.length cap]).kept ((Below.refl _ _).alloc (Nat.le_refl _) (.cells #[.int .i64 v.row, .int .i64 v.col, .bool v.down, .string v.word] 30))
      simp only [World.size_alloc] at this
      exact Lib.hid this
    have V16 : Hid (VarAt (((w13.alloc (.cells #[.int .i64 b.size, .string b.premium, .string b.cells] 25)).alloc (.cells #[.slice (some ⟨g, 0, none⟩) ws.length cap] 28)).alloc (.cells #[.int .i64 v.row, .int .i64 v.col, .bool v.down, .string v.word] 30)) (w13.heap.size + 1 + 1) 30 [.int .i64 v.row, .int .i64 v.col, .bool v.down, .string v.word]) := by
      have := VarAt.new ((w13.alloc (.cells #[.int .i64 b.size, .string b.premium, .string b.cells] 25)).alloc (.cells #[.slice (some ⟨g, 0, none⟩) ws.length cap] 28)) 30 [.int .i64 v.row, .int .i64 v.col, .bool v.down, .string v.word]
      simp only [World.size_alloc] at this
      exact Lib.hid this
    clear hd
    generalize hB : w13.heap.size = B14 at *
    obtain ⟨w14, hw⟩ : ∃ wE, ((w13.alloc (.cells #[.int .i64 b.size, .string b.premium, .string b.cells] 25)).alloc (.cells #[.slice (some ⟨g, 0, none⟩) ws.length cap] 28)).alloc (.cells #[.int .i64 v.row, .int .i64 v.col, .bool v.down, .string v.word] 30) = wE := ⟨_, rfl⟩
    rw [hw] at hb
    try rw [hw] at V3
    try rw [hw] at V4
    try rw [hw] at V7
    try rw [hw] at V10
    try rw [hw] at V12
    try rw [hw] at SX
    rw [hw] at V14 V15 V16
    have b0 := V14.out.cell (i := 0) (v := .int .i64 b.size) rfl
    have b1 := V14.out.cell (i := 1) (v := .string b.premium) rfl
    have b2 := V14.out.cell (i := 2) (v := .string b.cells) rfl
    have l0 := V15.out.cell (i := 0) (v := .slice (some ⟨g, 0, none⟩) ws.length cap) rfl
    have v0 := V16.out.cell (i := 0) (v := .int .i64 v.row) rfl
    have v1 := V16.out.cell (i := 1) (v := .int .i64 v.col) rfl
    have v2 := V16.out.cell (i := 2) (v := .bool v.down) rfl
    have v3 := V16.out.cell (i := 3) (v := .string v.word) rfl
    go_wp2_with fail
    clear hw hB
    refine (HW.out.w1 w14 (HE.out.kept hb) SX.out).mono ?_
    rintro e w15 ⟨au, capu, rfl, hu, hd⟩
    clear b0 b1 b2 l0 v0 v1 v2 v3
    replace hb := hb.trans ((hd).mono hb.size)
    try replace V3 := Lib.hid (V3.out.kept hd)
    try replace V4 := Lib.hid (V4.out.kept hd)
    try replace V7 := Lib.hid (V7.out.kept hd)
    try replace V10 := Lib.hid (V10.out.kept hd)
    try replace V12 := Lib.hid (V12.out.kept hd)
    try replace V14 := Lib.hid (V14.out.kept hd)
    try replace V15 := Lib.hid (V15.out.kept hd)
    try replace V16 := Lib.hid (V16.out.kept hd)
    try replace SX := Lib.hid (SX.out.kept hd)
    try replace SU := Lib.hid (SU.out.kept hd)
    try replace SV := Lib.hid (SV.out.kept hd)
    have SU := Lib.hid hu
    clear hd hu
    have b0 := V14.out.cell (i := 0) (v := .int .i64 b.size) rfl
    have b1 := V14.out.cell (i := 1) (v := .string b.premium) rfl
    have b2 := V14.out.cell (i := 2) (v := .string b.cells) rfl
    have l0 := V15.out.cell (i := 0) (v := .slice (some ⟨g, 0, none⟩) ws.length cap) rfl
    have v0 := V16.out.cell (i := 0) (v := .int .i64 v.row) rfl
    have v1 := V16.out.cell (i := 1) (v := .int .i64 v.col) rfl
    have v2 := V16.out.cell (i := 2) (v := .bool v.down) rfl
    have v3 := V16.out.cell (i := 3) (v := .string v.word) rfl
    go_wp2_with fail
    refine (HW.out.w2 w15 SX.out).mono ?_
    rintro e w16 ⟨av, capv, rfl, hv, hd⟩
    clear b0 b1 b2 l0 v0 v1 v2 v3
    replace hb := hb.trans ((hd).mono hb.size)
    try replace V3 := Lib.hid (V3.out.kept hd)
    try replace V4 := Lib.hid (V4.out.kept hd)
    try replace V7 := Lib.hid (V7.out.kept hd)
    try replace V10 := Lib.hid (V10.out.kept hd)
    try replace V12 := Lib.hid (V12.out.kept hd)
    try replace V14 := Lib.hid (V14.out.kept hd)
    try replace V15 := Lib.hid (V15.out.kept hd)
    try replace V16 := Lib.hid (V16.out.kept hd)
    try replace SX := Lib.hid (SX.out.kept hd)
    try replace SU := Lib.hid (SU.out.kept hd)
    try replace SV := Lib.hid (SV.out.kept hd)
    have SV := Lib.hid hv
    clear hd hv V14 V15 V16 SX
    have p0 := V3.out.cell (i := 0) (v := .int .i64 p.row) rfl
    have p1 := V3.out.cell (i := 1) (v := .int .i64 p.col) rfl
    have p2 := V3.out.cell (i := 2) (v := .bool p.down) rfl
    have p3 := V3.out.cell (i := 3) (v := .string p.word) rfl
    have q0 := V4.out.cell (i := 0) (v := .int .i64 q.row) rfl
    have q1 := V4.out.cell (i := 1) (v := .int .i64 q.col) rfl
    have q2 := V4.out.cell (i := 2) (v := .bool q.down) rfl
    have q3 := V4.out.cell (i := 3) (v := .string q.word) rfl
    go_wp2_with fail
    refine (HK.out.c3 w16).mono ?_
    rintro e w17 ⟨rfl, hd⟩
    clear p0 p1 p2 p3 q0 q1 q2 q3
    replace hb := hb.trans ((hd).mono hb.size)
    try replace V3 := Lib.hid (V3.out.kept hd)
    try replace V4 := Lib.hid (V4.out.kept hd)
    try replace V7 := Lib.hid (V7.out.kept hd)
    try replace V10 := Lib.hid (V10.out.kept hd)
    try replace V12 := Lib.hid (V12.out.kept hd)
    try replace V14 := Lib.hid (V14.out.kept hd)
    try replace V15 := Lib.hid (V15.out.kept hd)
    try replace V16 := Lib.hid (V16.out.kept hd)
    try replace SX := Lib.hid (SX.out.kept hd)
    try replace SU := Lib.hid (SU.out.kept hd)
    try replace SV := Lib.hid (SV.out.kept hd)
    clear hd
    have hneg := HK.out.neg
    have hneg2 : wrap64 (-k) = -k := (IntWalk.i64_left _).symm.trans hneg
    have p0 := V3.out.cell (i := 0) (v := .int .i64 p.row) rfl
    have p1 := V3.out.cell (i := 1) (v := .int .i64 p.col) rfl
    have p2 := V3.out.cell (i := 2) (v := .bool p.down) rfl
    have p3 := V3.out.cell (i := 3) (v := .string p.word) rfl
    have q0 := V4.out.cell (i := 0) (v := .int .i64 q.row) rfl
    have q1 := V4.out.cell (i := 1) (v := .int .i64 q.col) rfl
    have q2 := V4.out.cell (i := 2) (v := .bool q.down) rfl
    have q3 := V4.out.cell (i := 3) (v := .string q.word) rfl
    go_wp2_with fail
    refine (HK.out.c2 w17).mono ?_
    rintro e w18 ⟨rfl, hd⟩
    clear p0 p1 p2 p3 q0 q1 q2 q3
    replace hb := hb.trans ((hd).mono hb.size)
    try replace V3 := Lib.hid (V3.out.kept hd)
    try replace V4 := Lib.hid (V4.out.kept hd)
    try replace V7 := Lib.hid (V7.out.kept hd)
    try replace V10 := Lib.hid (V10.out.kept hd)
    try replace V12 := Lib.hid (V12.out.kept hd)
    try replace V14 := Lib.hid (V14.out.kept hd)
    try replace V15 := Lib.hid (V15.out.kept hd)
    try replace V16 := Lib.hid (V16.out.kept hd)
    try replace SX := Lib.hid (SX.out.kept hd)
    try replace SU := Lib.hid (SU.out.kept hd)
    try replace SV := Lib.hid (SV.out.kept hd)
    clear hd
    have hG := guard_ply
    have hEq := HK.out.eq
    have hkk : ((k == 0) != (k == 0)) = false := bne_self_eq_false _
    have p0 := V3.out.cell (i := 0) (v := .int .i64 p.row) rfl
    have p1 := V3.out.cell (i := 1) (v := .int .i64 p.col) rfl
    have p2 := V3.out.cell (i := 2) (v := .bool p.down) rfl
    have p3 := V3.out.cell (i := 3) (v := .string p.word) rfl
    have q0 := V4.out.cell (i := 0) (v := .int .i64 q.row) rfl
    have q1 := V4.out.cell (i := 1) (v := .int .i64 q.col) rfl
    have q2 := V4.out.cell (i := 2) (v := .bool q.down) rfl
    have q3 := V4.out.cell (i := 3) (v := .string q.word) rfl
    go_wp2_with fail
    refine (HK.out.t2 w18).mono ?_
    rintro e w19 ⟨rfl, hd⟩
    clear p0 p1 p2 p3 q0 q1 q2 q3 hneg hneg2 hEq hkk
    replace hb := hb.trans ((hd).mono hb.size)
    try replace V3 := Lib.hid (V3.out.kept hd)
    try replace V4 := Lib.hid (V4.out.kept hd)
    try replace V7 := Lib.hid (V7.out.kept hd)
    try replace V10 := Lib.hid (V10.out.kept hd)
    try replace V12 := Lib.hid (V12.out.kept hd)
    try replace V14 := Lib.hid (V14.out.kept hd)
    try replace V15 := Lib.hid (V15.out.kept hd)
    try replace V16 := Lib.hid (V16.out.kept hd)
    try replace SX := Lib.hid (SX.out.kept hd)
    try replace SU := Lib.hid (SU.out.kept hd)
    try replace SV := Lib.hid (SV.out.kept hd)
    clear hd
    have HUX := Lib.hid HR.out.ux
    have HLW := Lib.hid HW.out.len
    rcases HK.out.okt with ⟨hok, hte, hRp⟩ | ⟨hok, hte⟩
    · subst hok
      subst hRp
      clear HK HR HW HC
      have p0 := V3.out.cell (i := 0) (v := .int .i64 R.row) rfl
      have p1 := V3.out.cell (i := 1) (v := .int .i64 R.col) rfl
      have p2 := V3.out.cell (i := 2) (v := .bool R.down) rfl
      have p3 := V3.out.cell (i := 3) (v := .string R.word) rfl
      have r0 := V7.out.cell (i := 0) (v := .int .i64 R.row) rfl
      have r1 := V7.out.cell (i := 1) (v := .int .i64 R.col) rfl
      have r2 := V7.out.cell (i := 2) (v := .bool R.down) rfl
      have r3 := V7.out.cell (i := 3) (v := .string R.word) rfl
      have x0 := V10.out.cell (i := 0) (v := .int .i64 X.row) rfl
      have x1 := V10.out.cell (i := 1) (v := .int .i64 X.col) rfl
      have x2 := V10.out.cell (i := 2) (v := .bool X.down) rfl
      have x3 := V10.out.cell (i := 3) (v := .string X.word) rfl
      have y0 := V12.out.cell (i := 0) (v := .int .i64 X.row) rfl
      have y1 := V12.out.cell (i := 1) (v := .int .i64 X.col) rfl
      have y2 := V12.out.cell (i := 2) (v := .bool X.down) rfl
      have y3 := V12.out.cell (i := 3) (v := .string X.word) rfl
      have hN1 := neq_ply R.row R.col R.down R.word
      have hN2 := neq_ply X.row X.col X.down X.word
      have hoo : (one != one) = false := bne_self_eq_false _
      go_wp2_with fail
      refine (f6same_any L au av capu capv _ SU.out SV.out HLW.out).mono ?_
      rintro e w20 ⟨rfl, hd⟩
      clear p0 p1 p2 p3 r0 r1 r2 r3 x0 x1 x2 x3 y0 y1 y2 y3 hN1 hN2 hoo
      replace hb := hb.trans ((hd).mono hb.size)
      try replace V3 := Lib.hid (V3.out.kept hd)
      try replace V4 := Lib.hid (V4.out.kept hd)
      try replace V7 := Lib.hid (V7.out.kept hd)
      try replace V10 := Lib.hid (V10.out.kept hd)
      try replace V12 := Lib.hid (V12.out.kept hd)
      try replace V14 := Lib.hid (V14.out.kept hd)
      try replace V15 := Lib.hid (V15.out.kept hd)
      try replace V16 := Lib.hid (V16.out.kept hd)
      try replace SX := Lib.hid (SX.out.kept hd)
      try replace SU := Lib.hid (SU.out.kept hd)
      try replace SV := Lib.hid (SV.out.kept hd)
      clear hd SU SV V3 V4 V7 V12
      cases one with
      | false =>
        go_wp2
        go_ret
        exact ⟨rfl, hb⟩
      | true =>
        have x0 := V10.out.cell (i := 0) (v := .int .i64 X.row) rfl
        have x1 := V10.out.cell (i := 1) (v := .int .i64 X.col) rfl
        have x2 := V10.out.cell (i := 2) (v := .bool X.down) rfl
        have x3 := V10.out.cell (i := 3) (v := .string X.word) rfl
        go_wp2_with fail
        refine (HUX.out (by trivial) _ (HE.out.kept hb) (HN.out.kept hb)).mono ?_
        rintro e w21 ⟨rfl, hd⟩
        replace hb := hb.trans (hd.mono hb.size)
        clear x0 x1 x2 x3
        go_wp2
        go_ret
        exact ⟨rfl, hb⟩
    · subst hok
      subst hte
      clear HK HR HW HC
      have x0 := V10.out.cell (i := 0) (v := .int .i64 X.row) rfl
      have x1 := V10.out.cell (i := 1) (v := .int .i64 X.col) rfl
      have x2 := V10.out.cell (i := 2) (v := .bool X.down) rfl
      have x3 := V10.out.cell (i := 3) (v := .string X.word) rfl
      have y0 := V12.out.cell (i := 0) (v := .int .i64 X.row) rfl
      have y1 := V12.out.cell (i := 1) (v := .int .i64 X.col) rfl
      have y2 := V12.out.cell (i := 2) (v := .bool X.down) rfl
      have y3 := V12.out.cell (i := 3) (v := .string X.word) rfl
      have hN2 := neq_ply X.row X.col X.down X.word
      have hoo : (one != one) = false := bne_self_eq_false _
      go_wp2_with fail
      refine (f6same_any L au av capu capv _ SU.out SV.out HLW.out).mono ?_
      rintro e w20 ⟨rfl, hd⟩
      clear x0 x1 x2 x3 y0 y1 y2 y3 hN2 hoo
      replace hb := hb.trans ((hd).mono hb.size)
      try replace V3 := Lib.hid (V3.out.kept hd)
      try replace V4 := Lib.hid (V4.out.kept hd)
      try replace V7 := Lib.hid (V7.out.kept hd)
      try replace V10 := Lib.hid (V10.out.kept hd)
      try replace V12 := Lib.hid (V12.out.kept hd)
      try replace V14 := Lib.hid (V14.out.kept hd)
      try replace V15 := Lib.hid (V15.out.kept hd)
      try replace V16 := Lib.hid (V16.out.kept hd)
      try replace SX := Lib.hid (SX.out.kept hd)
      try replace SU := Lib.hid (SU.out.kept hd)
      try replace SV := Lib.hid (SV.out.kept hd)
      clear hd SU SV V3 V4 V7 V12
      cases one with
      | false =>
        go_wp2
        go_ret
        exact ⟨rfl, hb⟩
      | true =>
        have x0 := V10.out.cell (i := 0) (v := .int .i64 X.row) rfl
        have x1 := V10.out.cell (i := 1) (v := .int .i64 X.col) rfl
        have x2 := V10.out.cell (i := 2) (v := .bool X.down) rfl
        have x3 := V10.out.cell (i := 3) (v := .string X.word) rfl
        go_wp2_with fail
        refine (HUX.out (by trivial) _ (HE.out.kept hb) (HN.out.kept hb)).mono ?_
        rintro e w21 ⟨rfl, hd⟩
        replace hb := hb.trans (hd.mono hb.size)
        clear x0 x1 x2 x3
        go_wp2
        go_ret
        exact ⟨rfl, hb⟩
end Go.Proofs.YtjdcdhhbgijaoaaGreatDoor
