/- The law of FnLegalPlays: for every code the statement's own function answers true. Leans on Go's tables (CEnv) and internal/bytealg's MaxLen (EnvL). -/
import Derived.Test.YtjdcdhhbgijaoaaGreatDoorLlP
import Derived.Test.YtjdcdhhbgijaoaaGreatDoorLxH
import Derived.Deep.DeepCutAuto
import Derived.Deep.CutBlock
import Derived.BigQuiet
namespace Go.Proofs.YtjdcdhhbgijaoaaGreatDoor
open Go.ChangeShapes Go.WideShapes Go.ChangeAt Go.RowKit Go.Sort

set_option maxRecDepth 100000 in
set_option maxHeartbeats 8000000 in
theorem lawLegalPlays_any (ca : Option Addr) (ccap : Nat) (bs : List Int) (w : World) (hs : SliceAt w 1 Byt.enc ca bs) (hbd : ∀ x ∈ bs, 0 ≤ x ∧ x ≤ 255) (hE : CEnv w) (hL : EnvL w) :
    Calls Tryz.prog 8 #[.slice ca bs.length ccap] w fun e w' => e = .returned (.bool true) ∧ Below w.heap.size w w' := by
  by_cases hbig : 4096 < bs.length
  · have hd : decide ((4096 : Int) < bs.length) = true := by rw [decide_eq_true_eq]; omega
    clear hs hbd hE hL
    go_enter Tryz.func8, Tryz.ntmps8
    go_wp2_with fail
    refine (f6big_ct ca bs.length ccap w).mono ?_
    rintro e w1 ⟨rfl, rfl⟩
    rw [hd]
    go_wp2
    go_ret
    exact ⟨rfl, Below.refl _ _⟩
  · have hd : decide ((4096 : Int) < bs.length) = false := by rw [decide_eq_false_iff_not]; omega
    have HC : Hid (CodeAt w w.heap.size ca bs) := Lib.hid ⟨hs, hbd, by omega, fun h0 cb co e => by
      obtain ⟨b', o', e', hc⟩ := hs.open h0
      rw [e] at e'
      simp only [Option.some.injEq, Addr.mk.injEq, and_true] at e'
      rw [e'.1]
      exact block_lt (hc.at0 h0 rfl)⟩
    have HE := Lib.hid hE
    have HLL := Lib.hid hL
    clear hs hbd hE hL
    go_enter Tryz.func8, Tryz.ntmps8
    go_wp2_with fail
    refine (f6big_ct ca bs.length ccap w).mono ?_
    rintro e w1 ⟨rfl, rfl⟩
    rw [hd]
    clear hd hbig
    go_wp2_with fail
    refine (DrawLegalPlay_any ca ccap bs w HC.out).mono ?_
    rintro e w2 ⟨b, p, g, m, cap, ws, rack, hP, hC, hW, hR, rfl, hm, hy, rfl, hsx, hb⟩
    have hbf : b.fit := ⟨by omega, by omega⟩
    have hpw : p.word.size ≤ 1048576 := by omega
    have hwl : ws.length ≤ 9223372036854775807 := by omega
    have hwf : WordsFit ws := fun x hx => Nat.le_trans (hy x hx) (by decide)
    have hrl : rack.size ≤ 9223372036854775807 := by omega
    have HA1 : Hid (∀ W, CEnv W → EnvL W → SliceAt W 1 Tx.enc (some ⟨g, 0, none⟩) ws → Calls Tryz.prog 11 #[.agg #[.int .i64 b.size, .string b.premium, .string b.cells], .agg #[.slice (some ⟨g, 0, none⟩) ws.length cap], .string rack, .agg #[.int .i64 p.row, .int .i64 p.col, .bool p.down, .string p.word]] W fun e w' => e = .returned (.int .i64 (b.legalPlay ws rack p)) ∧ Below W.heap.size W w') := Lib.hid (fun W e1 e2 e3 => LegalPlay_any b p ws rack _ cap W e3 hbf hpw hwl hwf hrl e1 e2)
    have HLEG : Hid (b.legalPlay ws rack p = 0 → ∃ X T B A j1 j2, LegK b p g cap ws rack X T B A j1 j2) := Lib.hid (fun hz => legalK hbf hpw hwl hwf hrl hz)
    have SX := Lib.hid hsx
    clear hsx hP hC hW hR hm hy hbf hpw hwl hwf hrl HC
    generalize b.legalPlay ws rack p = a at *
    have hd : Below w2.heap.size w2 (((w2.alloc (.cells #[.int .i64 b.size, .string b.premium, .string b.cells] 25)).alloc (.cells #[.slice (some ⟨g, 0, none⟩) ws.length cap] 28)).alloc (.cells #[.int .i64 p.row, .int .i64 p.col, .bool p.down, .string p.word] 30)) := (((Below.refl _ _).alloc (Nat.le_refl _) _).alloc (by simp) _).alloc (by simp; omega) _
    have V3 := Lib.hid (((VarAt.new w2 25 [.int .i64 b.size, .string b.premium, .string b.cells]).kept ((Below.refl _ _).alloc (Nat.le_refl _) (.cells #[.slice (some ⟨g, 0, none⟩) ws.length cap] 28))).kept ((Below.refl _ _).alloc (Nat.le_refl _) (.cells #[.int .i64 p.row, .int .i64 p.col, .bool p.down, .string p.word] 30)))
    have V4 : Hid (VarAt (((w2.alloc (.cells #[.int .i64 b.size, .string b.premium, .string b.cells] 25)).alloc (.cells #[.slice (some ⟨g, 0, none⟩) ws.length cap] 28)).alloc (.cells #[.int .i64 p.row, .int .i64 p.col, .bool p.down, .string p.word] 30)) (w2.heap.size + 1) 28 [.slice (some ⟨g, 0, none⟩) ws.length cap]) := by
      have := (VarAt.new (w2.alloc (.cells #[.int .i64 b.size, .string b.premium, .string b.cells] 25)) 28 [.slice (some ⟨g, 0, none⟩) ws.length cap]).kept ((Below.refl _ _).alloc (Nat.le_refl _) (.cells #[.int .i64 p.row, .int .i64 p.col, .bool p.down, .string p.word] 30))
      simp only [World.size_alloc] at this
      exact Lib.hid this
    have V6 : Hid (VarAt (((w2.alloc (.cells #[.int .i64 b.size, .string b.premium, .string b.cells] 25)).alloc (.cells #[.slice (some ⟨g, 0, none⟩) ws.length cap] 28)).alloc (.cells #[.int .i64 p.row, .int .i64 p.col, .bool p.down, .string p.word] 30)) (w2.heap.size + 1 + 1) 30 [.int .i64 p.row, .int .i64 p.col, .bool p.down, .string p.word]) := by
      have := VarAt.new ((w2.alloc (.cells #[.int .i64 b.size, .string b.premium, .string b.cells] 25)).alloc (.cells #[.slice (some ⟨g, 0, none⟩) ws.length cap] 28)) 30 [.int .i64 p.row, .int .i64 p.col, .bool p.down, .string p.word]
      simp only [World.size_alloc] at this
      exact Lib.hid this
    replace SX := Lib.hid (SX.out.kept hd)
    replace hb := hb.trans (hd.mono hb.size)
    clear hd
    generalize hB : w2.heap.size = B3 at *
    obtain ⟨w3, hw⟩ : ∃ wE, ((w2.alloc (.cells #[.int .i64 b.size, .string b.premium, .string b.cells] 25)).alloc (.cells #[.slice (some ⟨g, 0, none⟩) ws.length cap] 28)).alloc (.cells #[.int .i64 p.row, .int .i64 p.col, .bool p.down, .string p.word] 30) = wE := ⟨_, rfl⟩
    rw [hw] at hb V3 V4 V6 SX
    have b0 := V3.out.cell (i := 0) (v := .int .i64 b.size) rfl
    have b1 := V3.out.cell (i := 1) (v := .string b.premium) rfl
    have b2 := V3.out.cell (i := 2) (v := .string b.cells) rfl
    have p0 := V6.out.cell (i := 0) (v := .int .i64 p.row) rfl
    have p1 := V6.out.cell (i := 1) (v := .int .i64 p.col) rfl
    have p2 := V6.out.cell (i := 2) (v := .bool p.down) rfl
    have p3 := V6.out.cell (i := 3) (v := .string p.word) rfl
    have l0 := V4.out.cell (i := 0) (v := .slice (some ⟨g, 0, none⟩) ws.length cap) rfl
    go_wp2_with fail
    clear hw hB
    refine (HA1.out w3 (HE.out.kept hb) (HLL.out.kept hb) SX.out).mono ?_
    rintro e w4 ⟨rfl, hd⟩
    clear b0 b1 b2 p0 p1 p2 p3 l0 HA1
    replace hb := hb.trans ((hd).mono hb.size)
    try replace V3 := Lib.hid (V3.out.kept hd)
    try replace V4 := Lib.hid (V4.out.kept hd)
    try replace V6 := Lib.hid (V6.out.kept hd)
    try replace V8 := Lib.hid (V8.out.kept hd)
    try replace V10 := Lib.hid (V10.out.kept hd)
    try replace V16 := Lib.hid (V16.out.kept hd)
    try replace V18 := Lib.hid (V18.out.kept hd)
    try replace SX := Lib.hid (SX.out.kept hd)
    try replace SU := Lib.hid (SU.out.kept hd)
    try replace SV := Lib.hid (SV.out.kept hd)
    clear hd
    by_cases ha : a = 0
    · obtain ⟨X, T, BL, AL, j1, j2, K⟩ := HLEG.out ha
      have HK := Lib.hid K
      clear K HLEG
      subst ha
      have b0 := V3.out.cell (i := 0) (v := .int .i64 b.size) rfl
      have b1 := V3.out.cell (i := 1) (v := .string b.premium) rfl
      have b2 := V3.out.cell (i := 2) (v := .string b.cells) rfl
      have p0 := V6.out.cell (i := 0) (v := .int .i64 p.row) rfl
      have p1 := V6.out.cell (i := 1) (v := .int .i64 p.col) rfl
      have p2 := V6.out.cell (i := 2) (v := .bool p.down) rfl
      have p3 := V6.out.cell (i := 3) (v := .string p.word) rfl
      go_wp2_with fail
      refine (HK.out.mp w4 (HE.out.kept hb)).mono ?_
      rintro e w6 ⟨rfl, hd⟩
      clear b0 b1 b2 p0 p1 p2 p3
      replace hb := hb.trans ((hd).mono hb.size)
      try replace V3 := Lib.hid (V3.out.kept hd)
      try replace V4 := Lib.hid (V4.out.kept hd)
      try replace V6 := Lib.hid (V6.out.kept hd)
      try replace V8 := Lib.hid (V8.out.kept hd)
      try replace V10 := Lib.hid (V10.out.kept hd)
      try replace V16 := Lib.hid (V16.out.kept hd)
      try replace V18 := Lib.hid (V18.out.kept hd)
      try replace SX := Lib.hid (SX.out.kept hd)
      try replace SU := Lib.hid (SU.out.kept hd)
      try replace SV := Lib.hid (SV.out.kept hd)
      clear hd
      have hd : Below w6.heap.size w6 (w6.alloc (.cells #[.int .i64 X.size, .string X.premium, .string X.cells] 25)) := (Below.refl _ _).alloc (Nat.le_refl _) _
      have V8 := Lib.hid (VarAt.new w6 25 [.int .i64 X.size, .string X.premium, .string X.cells])
      replace hb := hb.trans ((hd).mono hb.size)
      try replace V3 := Lib.hid (V3.out.kept hd)
      try replace V4 := Lib.hid (V4.out.kept hd)
      try replace V6 := Lib.hid (V6.out.kept hd)
      try replace V8 := Lib.hid (V8.out.kept hd)
      try replace V10 := Lib.hid (V10.out.kept hd)
      try replace V16 := Lib.hid (V16.out.kept hd)
      try replace V18 := Lib.hid (V18.out.kept hd)
      try replace SX := Lib.hid (SX.out.kept hd)
      try replace SU := Lib.hid (SU.out.kept hd)
      try replace SV := Lib.hid (SV.out.kept hd)
      clear hd
      generalize hB : w6.heap.size = B8 at *
      obtain ⟨w7, hw⟩ : ∃ wx, w6.alloc (.cells #[.int .i64 X.size, .string X.premium, .string X.cells] 25) = wx := ⟨_, rfl⟩
      rw [hw] at V8
      rw [hw] at hb
      try rw [hw] at V3
      try rw [hw] at V4
      try rw [hw] at V6
      try rw [hw] at V8
      try rw [hw] at V10
      try rw [hw] at V16
      try rw [hw] at V18
      try rw [hw] at SX
      try rw [hw] at SU
      try rw [hw] at SV
      have b0 := V3.out.cell (i := 0) (v := .int .i64 b.size) rfl
      have b1 := V3.out.cell (i := 1) (v := .string b.premium) rfl
      have b2 := V3.out.cell (i := 2) (v := .string b.cells) rfl
      go_wp2_with fail
      clear hw hB
      refine (HK.out.on1 w7 (HLL.out.kept hb)).mono ?_
      rintro e w8 ⟨a9, cap9, rfl, h9, hd⟩
      clear b0 b1 b2
      replace hb := hb.trans ((hd).mono hb.size)
      try replace V3 := Lib.hid (V3.out.kept hd)
      try replace V4 := Lib.hid (V4.out.kept hd)
      try replace V6 := Lib.hid (V6.out.kept hd)
      try replace V8 := Lib.hid (V8.out.kept hd)
      try replace V10 := Lib.hid (V10.out.kept hd)
      try replace V16 := Lib.hid (V16.out.kept hd)
      try replace V18 := Lib.hid (V18.out.kept hd)
      try replace SX := Lib.hid (SX.out.kept hd)
      try replace SU := Lib.hid (SU.out.kept hd)
      try replace SV := Lib.hid (SV.out.kept hd)
      have SU := Lib.hid h9
      clear hd h9
      have x0 := V8.out.cell (i := 0) (v := .int .i64 X.size) rfl
      have x1 := V8.out.cell (i := 1) (v := .string X.premium) rfl
      have x2 := V8.out.cell (i := 2) (v := .string X.cells) rfl
      go_wp2_with fail
      refine (HK.out.on2 w8 (HLL.out.kept hb)).mono ?_
      rintro e w9 ⟨a11, cap11, rfl, h9, hd⟩
      clear x0 x1 x2
      replace hb := hb.trans ((hd).mono hb.size)
      try replace V3 := Lib.hid (V3.out.kept hd)
      try replace V4 := Lib.hid (V4.out.kept hd)
      try replace V6 := Lib.hid (V6.out.kept hd)
      try replace V8 := Lib.hid (V8.out.kept hd)
      try replace V10 := Lib.hid (V10.out.kept hd)
      try replace V16 := Lib.hid (V16.out.kept hd)
      try replace V18 := Lib.hid (V18.out.kept hd)
      try replace SX := Lib.hid (SX.out.kept hd)
      try replace SU := Lib.hid (SU.out.kept hd)
      try replace SV := Lib.hid (SV.out.kept hd)
      have SV := Lib.hid h9
      clear hd h9
      have b0 := V3.out.cell (i := 0) (v := .int .i64 b.size) rfl
      have b1 := V3.out.cell (i := 1) (v := .string b.premium) rfl
      have b2 := V3.out.cell (i := 2) (v := .string b.cells) rfl
      have p0 := V6.out.cell (i := 0) (v := .int .i64 p.row) rfl
      have p1 := V6.out.cell (i := 1) (v := .int .i64 p.col) rfl
      have p2 := V6.out.cell (i := 2) (v := .bool p.down) rfl
      have p3 := V6.out.cell (i := 3) (v := .string p.word) rfl
      have l0 := V4.out.cell (i := 0) (v := .slice (some ⟨g, 0, none⟩) ws.length cap) rfl
      go_wp2_with fail
      refine (HK.out.wr w9 (HE.out.kept hb) SX.out).mono ?_
      rintro e w10 ⟨g13, c13, rfl, hd⟩
      clear b0 b1 b2 p0 p1 p2 p3 l0
      replace hb := hb.trans ((hd).mono hb.size)
      try replace V3 := Lib.hid (V3.out.kept hd)
      try replace V4 := Lib.hid (V4.out.kept hd)
      try replace V6 := Lib.hid (V6.out.kept hd)
      try replace V8 := Lib.hid (V8.out.kept hd)
      try replace V10 := Lib.hid (V10.out.kept hd)
      try replace V16 := Lib.hid (V16.out.kept hd)
      try replace V18 := Lib.hid (V18.out.kept hd)
      try replace SX := Lib.hid (SX.out.kept hd)
      try replace SU := Lib.hid (SU.out.kept hd)
      try replace SV := Lib.hid (SV.out.kept hd)
      clear hd
      have b0 := V3.out.cell (i := 0) (v := .int .i64 b.size) rfl
      have b1 := V3.out.cell (i := 1) (v := .string b.premium) rfl
      have b2 := V3.out.cell (i := 2) (v := .string b.cells) rfl
      have p0 := V6.out.cell (i := 0) (v := .int .i64 p.row) rfl
      have p1 := V6.out.cell (i := 1) (v := .int .i64 p.col) rfl
      have p2 := V6.out.cell (i := 2) (v := .bool p.down) rfl
      have p3 := V6.out.cell (i := 3) (v := .string p.word) rfl
      go_wp2_with fail
      refine (HK.out.pl w10 (HE.out.kept hb)).mono ?_
      rintro e w11 ⟨rfl, hd⟩
      clear b0 b1 b2 p0 p1 p2 p3
      replace hb := hb.trans ((hd).mono hb.size)
      try replace V3 := Lib.hid (V3.out.kept hd)
      try replace V4 := Lib.hid (V4.out.kept hd)
      try replace V6 := Lib.hid (V6.out.kept hd)
      try replace V8 := Lib.hid (V8.out.kept hd)
      try replace V10 := Lib.hid (V10.out.kept hd)
      try replace V16 := Lib.hid (V16.out.kept hd)
      try replace V18 := Lib.hid (V18.out.kept hd)
      try replace SX := Lib.hid (SX.out.kept hd)
      try replace SU := Lib.hid (SU.out.kept hd)
      try replace SV := Lib.hid (SV.out.kept hd)
      clear hd V6
      go_wp2_with fail
      refine (HK.out.ct w11).mono ?_
      rintro e w12 ⟨rfl, hd⟩
      replace hb := hb.trans ((hd).mono hb.size)
      try replace V3 := Lib.hid (V3.out.kept hd)
      try replace V4 := Lib.hid (V4.out.kept hd)
      try replace V6 := Lib.hid (V6.out.kept hd)
      try replace V8 := Lib.hid (V8.out.kept hd)
      try replace V10 := Lib.hid (V10.out.kept hd)
      try replace V16 := Lib.hid (V16.out.kept hd)
      try replace V18 := Lib.hid (V18.out.kept hd)
      try replace SX := Lib.hid (SX.out.kept hd)
      try replace SU := Lib.hid (SU.out.kept hd)
      try replace SV := Lib.hid (SV.out.kept hd)
      clear hd
      go_upto_region 13 with fail
      go_cut [98] (fun v wx => v = .bool false ∧ Below w12.heap.size w12 wx)
      case first =>
        have b0 := V3.out.cell (i := 0) (v := .int .i64 b.size) rfl
        have b1 := V3.out.cell (i := 1) (v := .string b.premium) rfl
        have b2 := V3.out.cell (i := 2) (v := .string b.cells) rfl
        go_wp2_with fail
        refine (HK.out.jn1 w12 (HLL.out.kept hb)).mono ?_
        rintro e w13 ⟨rfl, hd⟩
        have hbx := hb.trans (hd.mono hb.size)
        have x0 := cell_kept (V8.out.cell (i := 0) (v := .int .i64 X.size) rfl) hd
        have x1 := cell_kept (V8.out.cell (i := 1) (v := .string X.premium) rfl) hd
        have x2 := cell_kept (V8.out.cell (i := 2) (v := .string X.cells) rfl) hd
        clear b0 b1 b2
        cases hj : j1 with
        | false =>
          clear x0 x1 x2
          go_wp2_with fail
          go_meet
          exact ⟨rfl, hd⟩
        | true =>
          have hj2 := HK.out.jj hj
          go_wp2_with fail
          refine (HK.out.jn2 w13 (HLL.out.kept hbx)).mono ?_
          rintro e w14 ⟨rfl, hd2⟩
          rw [hj2]
          clear x0 x1 x2
          go_wp2_with fail
          go_meet
          exact ⟨rfl, hd.trans (hd2.mono hd.size)⟩
      case rest =>
        obtain ⟨rfl, hcb⟩ := hcut
        generalize wc = wJ at *
        replace hb := hb.trans ((hcb).mono hb.size)
        try replace V3 := Lib.hid (V3.out.kept hcb)
        try replace V4 := Lib.hid (V4.out.kept hcb)
        try replace V6 := Lib.hid (V6.out.kept hcb)
        try replace V8 := Lib.hid (V8.out.kept hcb)
        try replace V10 := Lib.hid (V10.out.kept hcb)
        try replace V16 := Lib.hid (V16.out.kept hcb)
        try replace V18 := Lib.hid (V18.out.kept hcb)
        try replace SX := Lib.hid (SX.out.kept hcb)
        try replace SU := Lib.hid (SU.out.kept hcb)
        try replace SV := Lib.hid (SV.out.kept hcb)
        clear hcb V3 V8
        have hk := Below.refl wJ.heap.size wJ
        have hlB := HK.out.lenB
        have hlA := HK.out.lenA
        have HHW := Lib.hid HK.out.hw
        have HALL := Lib.hid HK.out.all
        clear HK
        go_wp2_with fail
        go_loopw [17] (fun iv wr => ∃ k : Nat, k ≤ BL.length ∧ iv = .int .i64 k ∧ Hid (∀ i (h : i < BL.length), i < k → hasW ws BL[i] = true) ∧ Below wJ.heap.size wJ wr) (fun iv _ => BL.length - (intOf iv).toNat)
        case atStart => exact ⟨0, Nat.zero_le _, rfl, Lib.hid (fun i h h0 => absurd h0 (Nat.not_lt_zero _)), hk⟩
        case round =>
          clear hk
          obtain ⟨k, hk9, rfl, HD, hk⟩ := hrel
          by_cases hlt : k < BL.length
          · obtain ⟨mb, mo, rfl, hc⟩ := SU.out.open hlt
            have c0 := cell_kept (hc.at0 hlt rfl) hk
            rw [Nat.mul_one] at c0
            have l0 := cell_kept (V4.out.cell (i := 0) (v := .slice (some ⟨g, 0, none⟩) ws.length cap) rfl) hk
            have HS := Lib.hid (SX.out.kept hk)
            have HH := Lib.hid (HHW.out BL[k])
            have HD2 := Lib.hid (fun (hv : hasW ws BL[k] = true) i (h : i < BL.length) (hik : i < k + 1) => show hasW ws BL[i] = true from by
              by_cases e : i = k
              · subst e; exact hv
              · exact HD.out i h (by omega))
            clear hc HHW HALL SV SU HD
            have hkI : (k : Int) < (BL.length : Int) := by omega
            go_upto_region 18 with fail
            have e0 := cell_regrown c0
            have el0 := cell_regrown l0
            generalize BL[k] = x at *
            cases hv : hasW ws x with
            | false =>
              rw [hv] at HH
              clear HD2
              refine wp_region_quiet_below (by kernel_rfl) (by kernel_rfl) ?_
              repeat (go_big_quiet_step ((first
                | (go_at_call 67; exact Calls.regrown_of (HH.out _ (HS.out.kept (below_regrown _ _ _)))))))
              refine wpQuiet_nil ?_
              intro wx hw'
              have hd := below_of_ex hw'
              clear hw' e0 el0 c0 l0 HH HS
              have hk2 := hb.trans ((hk.trans (hd.mono hk.size)).mono hb.size)
              clear hd hk hb
              go_wp2
              go_ret
              exact ⟨rfl, hk2⟩
            | true =>
              rw [hv] at HH
              have HD3 := Lib.hid (HD2.out hv)
              clear HD2
              refine wp_region_quiet_below (by kernel_rfl) (by kernel_rfl) ?_
              repeat (go_big_quiet_step ((first
                | (go_at_call 67; exact Calls.regrown_of (HH.out _ (HS.out.kept (below_regrown _ _ _)))))))
              refine wpQuiet_nil ?_
              intro wx hw'
              have hd := below_of_ex hw'
              clear hw' e0 el0 c0 l0 HH HS hv
              have hk2 := hk.trans (hd.mono hk.size)
              clear hd hk
              go_wp2
              go_roundw
              case rel => exact ⟨k + 1, by omega, by go_num, HD3, hk2⟩
              case measure => simp [intOf]; omega
          · have HAA := Lib.hid (HALL.out (fun i h => HD.out i h (by omega)))
            have hkJ := hk
            clear HD HALL SU
            generalize wr = wK at *
            go_wp2_with fail
            go_loopw [18] (fun iv wr => ∃ k : Nat, k ≤ AL.length ∧ iv = .int .i64 k ∧ Below wJ.heap.size wJ wr) (fun iv _ => AL.length - (intOf iv).toNat)
            case atStart => exact ⟨0, Nat.zero_le _, rfl, hkJ⟩
            case round =>
              clear hkJ hk hk9 hlt
              obtain ⟨k, hk9, rfl, hk⟩ := hrel
              by_cases hlt : k < AL.length
              · obtain ⟨mb, mo, rfl, hc⟩ := SV.out.open hlt
                have c0 := cell_kept (hc.at0 hlt rfl) hk
                rw [Nat.mul_one] at c0
                have l0 := cell_kept (V4.out.cell (i := 0) (v := .slice (some ⟨g, 0, none⟩) ws.length cap) rfl) hk
                have HS := Lib.hid (SX.out.kept hk)
                have HH := Lib.hid (HHW.out AL[k])
                have hv := HAA.out k hlt
                clear hc HHW SV HAA
                have hkI : (k : Int) < (AL.length : Int) := by omega
                go_upto_region 23 with fail
                have e0 := cell_regrown c0
                have el0 := cell_regrown l0
                generalize AL[k] = x at *
                rw [hv] at HH
                refine wp_region_quiet_below (by kernel_rfl) (by kernel_rfl) ?_
                repeat (go_big_quiet_step ((first
                  | (go_at_call 67; exact Calls.regrown_of (HH.out _ (HS.out.kept (below_regrown _ _ _)))))))
                refine wpQuiet_nil ?_
                intro wx hw'
                have hd := below_of_ex hw'
                clear hw' e0 el0 c0 l0 HH HS hv
                have hk2 := hk.trans (hd.mono hk.size)
                clear hd hk
                go_wp2
                go_roundw
                case rel => exact ⟨k + 1, by omega, by go_num, hk2⟩
                case measure => simp [intOf]; omega
              · have hk2 := hb.trans (hk.mono hb.size)
                clear hk hb HHW HAA SV
                go_wp2
                go_ret
                exact ⟨rfl, hk2⟩
    · have h33 : (a != 0) = true := by simp [ha]
      clear HLEG V3 V4 V6 SX
      go_wp2
      go_ret
      exact ⟨rfl, hb⟩
end Go.Proofs.YtjdcdhhbgijaoaaGreatDoor
