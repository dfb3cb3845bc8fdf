/- The law of FnTransposedPlays: for every code the statement's own function answers true. Leans on Go's tables (CEnv) and internal/bytealg's MaxLen (EnvL). -/
import Derived.Test.YtjdcdhhbgijaoaaGreatDoorLtP
import Derived.Test.YtjdcdhhbgijaoaaGreatDoorLxH
import Derived.Deep.DeepCutAuto
import Derived.Deep.CutBlock
namespace Go.Proofs.YtjdcdhhbgijaoaaGreatDoor
open Go.ChangeShapes Go.WideShapes Go.ChangeAt Go.RowKit Go.Sort

set_option maxRecDepth 100000 in
set_option maxHeartbeats 8000000 in
theorem lawTransposed_any (ca : Option Addr) (ccap : Nat) (bs : List Int) (w : World) (hs : SliceAt w 1 Byt.enc ca bs) (hbd : ∀ x ∈ bs, 0 ≤ x ∧ x ≤ 255) (hE : CEnv w) (hL : EnvL w) :
    Calls Tryz.prog 3 #[.slice ca bs.length ccap] w fun e w' => e = .returned (.bool true) ∧ Below w.heap.size w w' := by
  by_cases hbig : 4096 < bs.length
  · have hd : decide ((4096 : Int) < bs.length) = true := by rw [decide_eq_true_eq]; omega
    clear hs hbd hE hL
    go_enter Tryz.func3, Tryz.ntmps3
    go_wp2_with fail
    refine (f6big_ct ca bs.length ccap w).mono ?_
    rintro e w1 ⟨rfl, rfl⟩
    rw [hd]
    go_wp2
    go_ret
    exact ⟨rfl, Below.refl _ _⟩
  · have hd : decide ((4096 : Int) < bs.length) = false := by rw [decide_eq_false_iff_not]; omega
    have HC : Hid (CodeAt w w.heap.size ca bs) := Lib.hid ⟨hs, hbd, by omega, fun h0 cb co e => by
      obtain ⟨b', o', e', hc⟩ := hs.open h0
      rw [e] at e'
      simp only [Option.some.injEq, Addr.mk.injEq, and_true] at e'
      rw [e'.1]
      exact block_lt (hc.at0 h0 rfl)⟩
    have HE := Lib.hid hE
    have HLL := Lib.hid hL
    clear hs hbd hE hL
    go_enter Tryz.func3, Tryz.ntmps3
    go_wp2_with fail
    refine (f6big_ct ca bs.length ccap w).mono ?_
    rintro e w1 ⟨rfl, rfl⟩
    rw [hd]
    clear hd hbig
    go_wp2_with fail
    refine (DrawLegalPlay_any ca ccap bs w HC.out).mono ?_
    rintro e w2 ⟨b, p, g, m, cap, ws, rack, hP, hC, hW, hR, rfl, hm, hy, rfl, hsx, hb⟩
    have hbf : b.fit := ⟨by omega, by omega⟩
    have hpw : p.word.size ≤ 1048576 := by omega
    have hwl : ws.length ≤ 9223372036854775807 := by omega
    have hwf : WordsFit ws := fun x hx => Nat.le_trans (hy x hx) (by decide)
    have hrl : rack.size ≤ 9223372036854775807 := by omega
    have HA1 : Hid (∀ W, CEnv W → EnvL W → SliceAt W 1 Tx.enc (some ⟨g, 0, none⟩) ws → Calls Tryz.prog 11 #[.agg #[.int .i64 b.size, .string b.premium, .string b.cells], .agg #[.slice (some ⟨g, 0, none⟩) ws.length cap], .string rack, .agg #[.int .i64 p.row, .int .i64 p.col, .bool p.down, .string p.word]] W fun e w' => e = .returned (.int .i64 (b.legalPlay ws rack p)) ∧ Below W.heap.size W w') := Lib.hid (fun W e1 e2 e3 => LegalPlay_any b p ws rack _ cap W e3 hbf hpw hwl hwf hrl e1 e2)
    have HA2 : Hid (∀ W, SliceAt W 1 Tx.enc (some ⟨g, 0, none⟩) ws → Calls Tryz.prog 12 #[.agg #[.int .i64 b.size, .string b.premium, .string b.cells], .agg #[.slice (some ⟨g, 0, none⟩) ws.length cap], .string rack, .agg #[.int .i64 p.row, .int .i64 p.col, .bool p.down, .string p.word]] W fun e w' => e = .returned (.int .i64 (b.legalPlay ws rack p)) ∧ Below W.heap.size W w') := Lib.hid (fun W e3 => specLegalPlay_any b p ws rack _ cap W e3 hbf (Nat.le_trans hpw (by decide)) hwl hwf hrl)
    have HTN : Hid (b.ok = false → b.legalPlay ws rack p = 1 ∧ ∀ W, Calls Tryz.prog 13 #[.agg #[.int .i64 b.size, .string b.premium, .string b.cells]] W fun e w' => e = .returned (.tuple #[.agg #[.int .i64 0, .string ⟨#[]⟩, .string ⟨#[]⟩], .int .i64 1]) ∧ Below W.heap.size W w') := Lib.hid (fun (hk : b.ok = false) => by
      refine ⟨by unfold Brd.legalPlay; rw [hk]; rfl, fun W => ?_⟩
      have := TransposeBoard_any b W hbf
      rwa [turn_no hk] at this)
    have HTY : Hid (b.ok = true → ∃ X c cd tp Wd M N, TurnK b p g cap ws rack X (b.legalPlay ws rack p) c cd tp Wd M N) := Lib.hid (fun (hk : b.ok = true) => by
      obtain ⟨n, hn⟩ := Brd.good hk
      exact turnK hn hpw hwl hwf hrl)
    have SX := Lib.hid hsx
    clear hsx hP hC hW hR hm hy hbf hpw hwl hwf hrl HC
    generalize b.legalPlay ws rack p = a at *
    have hd : Below w2.heap.size w2 (((w2.alloc (.cells #[.int .i64 b.size, .string b.premium, .string b.cells] 25)).alloc (.cells #[.slice (some ⟨g, 0, none⟩) ws.length cap] 28)).alloc (.cells #[.int .i64 p.row, .int .i64 p.col, .bool p.down, .string p.word] 30)) := (((Below.refl _ _).alloc (Nat.le_refl _) _).alloc (by simp) _).alloc (by simp; omega) _
    have V3 := Lib.hid (((VarAt.new w2 25 [.int .i64 b.size, .string b.premium, .string b.cells]).kept ((Below.refl _ _).alloc (Nat.le_refl _) (.cells #[.slice (some ⟨g, 0, none⟩) ws.length cap] 28))).kept ((Below.refl _ _).alloc (Nat.le_refl _) (.cells #[.int .i64 p.row, .int .i64 p.col, .bool p.down, .string p.word] 30)))
    have V4 : Hid (VarAt (((w2.alloc (.cells #[.int .i64 b.size, .string b.premium, .string b.cells] 25)).alloc (.cells #[.slice (some ⟨g, 0, none⟩) ws.length cap] 28)).alloc (.cells #[.int .i64 p.row, .int .i64 p.col, .bool p.down, .string p.word] 30)) (w2.heap.size + 1) 28 [.slice (some ⟨g, 0, none⟩) ws.length cap]) := by
      have := (VarAt.new (w2.alloc (.cells #[.int .i64 b.size, .string b.premium, .string b.cells] 25)) 28 [.slice (some ⟨g, 0, none⟩) ws.length cap]).kept ((Below.refl _ _).alloc (Nat.le_refl _) (.cells #[.int .i64 p.row, .int .i64 p.col, .bool p.down, .string p.word] 30))
      simp only [World.size_alloc] at this
      exact Lib.hid this
    have V6 : Hid (VarAt (((w2.alloc (.cells #[.int .i64 b.size, .string b.premium, .string b.cells] 25)).alloc (.cells #[.slice (some ⟨g, 0, none⟩) ws.length cap] 28)).alloc (.cells #[.int .i64 p.row, .int .i64 p.col, .bool p.down, .string p.word] 30)) (w2.heap.size + 1 + 1) 30 [.int .i64 p.row, .int .i64 p.col, .bool p.down, .string p.word]) := by
      have := VarAt.new ((w2.alloc (.cells #[.int .i64 b.size, .string b.premium, .string b.cells] 25)).alloc (.cells #[.slice (some ⟨g, 0, none⟩) ws.length cap] 28)) 30 [.int .i64 p.row, .int .i64 p.col, .bool p.down, .string p.word]
      simp only [World.size_alloc] at this
      exact Lib.hid this
    replace SX := Lib.hid (SX.out.kept hd)
    replace hb := hb.trans (hd.mono hb.size)
    clear hd
    generalize hB : w2.heap.size = B3 at *
    obtain ⟨w3, hw⟩ : ∃ wE, ((w2.alloc (.cells #[.int .i64 b.size, .string b.premium, .string b.cells] 25)).alloc (.cells #[.slice (some ⟨g, 0, none⟩) ws.length cap] 28)).alloc (.cells #[.int .i64 p.row, .int .i64 p.col, .bool p.down, .string p.word] 30) = wE := ⟨_, rfl⟩
    rw [hw] at hb V3 V4 V6 SX
    have b0 := V3.out.cell (i := 0) (v := .int .i64 b.size) rfl
    have b1 := V3.out.cell (i := 1) (v := .string b.premium) rfl
    have b2 := V3.out.cell (i := 2) (v := .string b.cells) rfl
    have p0 := V6.out.cell (i := 0) (v := .int .i64 p.row) rfl
    have p1 := V6.out.cell (i := 1) (v := .int .i64 p.col) rfl
    have p2 := V6.out.cell (i := 2) (v := .bool p.down) rfl
    have p3 := V6.out.cell (i := 3) (v := .string p.word) rfl
    have l0 := V4.out.cell (i := 0) (v := .slice (some ⟨g, 0, none⟩) ws.length cap) rfl
    go_wp2_with fail
    clear hw hB
    refine (HA1.out w3 (HE.out.kept hb) (HLL.out.kept hb) SX.out).mono ?_
    rintro e w4 ⟨rfl, hd⟩
    clear b0 b1 b2 p0 p1 p2 p3 l0 HA1
    replace hb := hb.trans ((hd).mono hb.size)
    try replace V3 := Lib.hid (V3.out.kept hd)
    try replace V4 := Lib.hid (V4.out.kept hd)
    try replace V6 := Lib.hid (V6.out.kept hd)
    try replace V8 := Lib.hid (V8.out.kept hd)
    try replace V10 := Lib.hid (V10.out.kept hd)
    try replace V16 := Lib.hid (V16.out.kept hd)
    try replace V18 := Lib.hid (V18.out.kept hd)
    try replace SX := Lib.hid (SX.out.kept hd)
    try replace SU := Lib.hid (SU.out.kept hd)
    try replace SV := Lib.hid (SV.out.kept hd)
    clear hd
    have b0 := V3.out.cell (i := 0) (v := .int .i64 b.size) rfl
    have b1 := V3.out.cell (i := 1) (v := .string b.premium) rfl
    have b2 := V3.out.cell (i := 2) (v := .string b.cells) rfl
    have p0 := V6.out.cell (i := 0) (v := .int .i64 p.row) rfl
    have p1 := V6.out.cell (i := 1) (v := .int .i64 p.col) rfl
    have p2 := V6.out.cell (i := 2) (v := .bool p.down) rfl
    have p3 := V6.out.cell (i := 3) (v := .string p.word) rfl
    have l0 := V4.out.cell (i := 0) (v := .slice (some ⟨g, 0, none⟩) ws.length cap) rfl
    go_wp2_with fail
    refine (HA2.out w4 SX.out).mono ?_
    rintro e w5 ⟨rfl, hd⟩
    clear b0 b1 b2 p0 p1 p2 p3 l0 HA2
    replace hb := hb.trans ((hd).mono hb.size)
    try replace V3 := Lib.hid (V3.out.kept hd)
    try replace V4 := Lib.hid (V4.out.kept hd)
    try replace V6 := Lib.hid (V6.out.kept hd)
    try replace V8 := Lib.hid (V8.out.kept hd)
    try replace V10 := Lib.hid (V10.out.kept hd)
    try replace V16 := Lib.hid (V16.out.kept hd)
    try replace V18 := Lib.hid (V18.out.kept hd)
    try replace SX := Lib.hid (SX.out.kept hd)
    try replace SU := Lib.hid (SU.out.kept hd)
    try replace SV := Lib.hid (SV.out.kept hd)
    clear hd
    have b0 := V3.out.cell (i := 0) (v := .int .i64 b.size) rfl
    have b1 := V3.out.cell (i := 1) (v := .string b.premium) rfl
    have b2 := V3.out.cell (i := 2) (v := .string b.cells) rfl
    go_wp2_with fail
    cases hk : b.ok with
    | false =>
      obtain ⟨rfl, ht⟩ := HTN.out hk
      refine (ht w5).mono ?_
      rintro e w6 ⟨rfl, hd⟩
      clear b0 b1 b2 HTN HTY hk ht
      replace hb := hb.trans ((hd).mono hb.size)
      try replace V3 := Lib.hid (V3.out.kept hd)
      try replace V4 := Lib.hid (V4.out.kept hd)
      try replace V6 := Lib.hid (V6.out.kept hd)
      try replace V8 := Lib.hid (V8.out.kept hd)
      try replace V10 := Lib.hid (V10.out.kept hd)
      try replace V16 := Lib.hid (V16.out.kept hd)
      try replace V18 := Lib.hid (V18.out.kept hd)
      try replace SX := Lib.hid (SX.out.kept hd)
      try replace SU := Lib.hid (SU.out.kept hd)
      try replace SV := Lib.hid (SV.out.kept hd)
      clear hd
      have hd : Below w6.heap.size w6 (w6.alloc (.cells #[.int .i64 0, .string ⟨#[]⟩, .string ⟨#[]⟩] 25)) := (Below.refl _ _).alloc (Nat.le_refl _) _
      replace hb := hb.trans (hd.mono hb.size)
      clear V3 V4 V6 SX hd
      go_wp2
      go_ret
      exact ⟨rfl, hb⟩
    | true =>
      obtain ⟨X, c, cd, tp, Wd, M, N, K⟩ := HTY.out hk
      have HK := Lib.hid K
      clear K HTN HTY hk
      refine (HK.out.tb w5).mono ?_
      rintro e w6 ⟨rfl, hd⟩
      clear b0 b1 b2
      replace hb := hb.trans ((hd).mono hb.size)
      try replace V3 := Lib.hid (V3.out.kept hd)
      try replace V4 := Lib.hid (V4.out.kept hd)
      try replace V6 := Lib.hid (V6.out.kept hd)
      try replace V8 := Lib.hid (V8.out.kept hd)
      try replace V10 := Lib.hid (V10.out.kept hd)
      try replace V16 := Lib.hid (V16.out.kept hd)
      try replace V18 := Lib.hid (V18.out.kept hd)
      try replace SX := Lib.hid (SX.out.kept hd)
      try replace SU := Lib.hid (SU.out.kept hd)
      try replace SV := Lib.hid (SV.out.kept hd)
      clear hd
      have hd : Below w6.heap.size w6 (w6.alloc (.cells #[.int .i64 X.size, .string X.premium, .string X.cells] 25)) := (Below.refl _ _).alloc (Nat.le_refl _) _
      have V8 := Lib.hid (VarAt.new w6 25 [.int .i64 X.size, .string X.premium, .string X.cells])
      replace hb := hb.trans ((hd).mono hb.size)
      try replace V3 := Lib.hid (V3.out.kept hd)
      try replace V4 := Lib.hid (V4.out.kept hd)
      try replace V6 := Lib.hid (V6.out.kept hd)
      try replace V8 := Lib.hid (V8.out.kept hd)
      try replace V10 := Lib.hid (V10.out.kept hd)
      try replace V16 := Lib.hid (V16.out.kept hd)
      try replace V18 := Lib.hid (V18.out.kept hd)
      try replace SX := Lib.hid (SX.out.kept hd)
      try replace SU := Lib.hid (SU.out.kept hd)
      try replace SV := Lib.hid (SV.out.kept hd)
      clear hd
      generalize hB : w6.heap.size = B8 at *
      obtain ⟨w7, hw⟩ : ∃ wx, w6.alloc (.cells #[.int .i64 X.size, .string X.premium, .string X.cells] 25) = wx := ⟨_, rfl⟩
      rw [hw] at V8
      rw [hw] at hb
      try rw [hw] at V3
      try rw [hw] at V4
      try rw [hw] at V6
      try rw [hw] at V8
      try rw [hw] at V10
      try rw [hw] at V16
      try rw [hw] at V18
      try rw [hw] at SX
      try rw [hw] at SU
      try rw [hw] at SV
      have p0 := V6.out.cell (i := 0) (v := .int .i64 p.row) rfl
      have p1 := V6.out.cell (i := 1) (v := .int .i64 p.col) rfl
      have p2 := V6.out.cell (i := 2) (v := .bool p.down) rfl
      have p3 := V6.out.cell (i := 3) (v := .string p.word) rfl
      go_wp2_with fail
      clear hw hB
      refine (HK.out.tq1 w7).mono ?_
      rintro e w8 ⟨rfl, hd⟩
      clear p0 p1 p2 p3
      replace hb := hb.trans ((hd).mono hb.size)
      try replace V3 := Lib.hid (V3.out.kept hd)
      try replace V4 := Lib.hid (V4.out.kept hd)
      try replace V6 := Lib.hid (V6.out.kept hd)
      try replace V8 := Lib.hid (V8.out.kept hd)
      try replace V10 := Lib.hid (V10.out.kept hd)
      try replace V16 := Lib.hid (V16.out.kept hd)
      try replace V18 := Lib.hid (V18.out.kept hd)
      try replace SX := Lib.hid (SX.out.kept hd)
      try replace SU := Lib.hid (SU.out.kept hd)
      try replace SV := Lib.hid (SV.out.kept hd)
      clear hd
      have hd : Below w8.heap.size w8 (w8.alloc (.cells #[.int .i64 p.col, .int .i64 p.row, .bool (!p.down), .string p.word] 30)) := (Below.refl _ _).alloc (Nat.le_refl _) _
      have V10 := Lib.hid (VarAt.new w8 30 [.int .i64 p.col, .int .i64 p.row, .bool (!p.down), .string p.word])
      replace hb := hb.trans ((hd).mono hb.size)
      try replace V3 := Lib.hid (V3.out.kept hd)
      try replace V4 := Lib.hid (V4.out.kept hd)
      try replace V6 := Lib.hid (V6.out.kept hd)
      try replace V8 := Lib.hid (V8.out.kept hd)
      try replace V10 := Lib.hid (V10.out.kept hd)
      try replace V16 := Lib.hid (V16.out.kept hd)
      try replace V18 := Lib.hid (V18.out.kept hd)
      try replace SX := Lib.hid (SX.out.kept hd)
      try replace SU := Lib.hid (SU.out.kept hd)
      try replace SV := Lib.hid (SV.out.kept hd)
      clear hd
      generalize hB : w8.heap.size = B10 at *
      obtain ⟨w9, hw⟩ : ∃ wx, w8.alloc (.cells #[.int .i64 p.col, .int .i64 p.row, .bool (!p.down), .string p.word] 30) = wx := ⟨_, rfl⟩
      rw [hw] at V10
      rw [hw] at hb
      try rw [hw] at V3
      try rw [hw] at V4
      try rw [hw] at V6
      try rw [hw] at V8
      try rw [hw] at V10
      try rw [hw] at V16
      try rw [hw] at V18
      try rw [hw] at SX
      try rw [hw] at SU
      try rw [hw] at SV
      go_upto_region 11 with fail
      clear hw hB
      have b0 := V3.out.cell (i := 0) (v := .int .i64 b.size) rfl
      have b1 := V3.out.cell (i := 1) (v := .string b.premium) rfl
      have b2 := V3.out.cell (i := 2) (v := .string b.cells) rfl
      have p0 := V6.out.cell (i := 0) (v := .int .i64 p.row) rfl
      have p1 := V6.out.cell (i := 1) (v := .int .i64 p.col) rfl
      have p2 := V6.out.cell (i := 2) (v := .bool p.down) rfl
      have p3 := V6.out.cell (i := 3) (v := .string p.word) rfl
      have x0 := V8.out.cell (i := 0) (v := .int .i64 X.size) rfl
      have x1 := V8.out.cell (i := 1) (v := .string X.premium) rfl
      have x2 := V8.out.cell (i := 2) (v := .string X.cells) rfl
      have q0 := V10.out.cell (i := 0) (v := .int .i64 p.col) rfl
      have q1 := V10.out.cell (i := 1) (v := .int .i64 p.row) rfl
      have q2 := V10.out.cell (i := 2) (v := .bool (!p.down)) rfl
      have q3 := V10.out.cell (i := 3) (v := .string p.word) rfl
      have eb0 := cell_regrown b0
      have eb1 := cell_regrown b1
      have eb2 := cell_regrown b2
      have ep0 := cell_regrown p0
      have ep1 := cell_regrown p1
      have ep2 := cell_regrown p2
      have ep3 := cell_regrown p3
      have ex0 := cell_regrown x0
      have ex1 := cell_regrown x1
      have ex2 := cell_regrown x2
      have eq0 := cell_regrown q0
      have eq1 := cell_regrown q1
      have eq2 := cell_regrown q2
      have eq3 := cell_regrown q3
      have hN1 := neq_ply p.col p.row (!p.down) p.word
      have hN2 := neq_ply p.row p.col p.down p.word
      have hG := guard_ply
      have hT : (tp != tp) = false := bne_self_eq_false _
      have HEE := Lib.hid (HE.out.kept hb)
      have HLE := Lib.hid (HLL.out.kept hb)
      refine wp_region_quiet_below (by kernel_rfl) (by kernel_rfl) ?_
      repeat (go_big_quiet_step ((first
        | (go_at_call 15; exact Calls.regrown_of (HK.out.tq2 _))
        | (go_at_call 14; exact Calls.regrown_of (HK.out.tq3 _))
        | (go_at_call 17; exact Calls.regrown_of (HK.out.tc2 _))
        | (go_at_call_of 16 (Value.agg #[Value.int .i64 b.size, Value.string b.premium, Value.string b.cells]); exact Calls.regrown_of (HK.out.tc1 _ (HEE.out.kept (below_regrown _ _ _)) (HLE.out.kept (below_regrown _ _ _))))
        | (go_at_call_of 16 (Value.agg #[Value.int .i64 X.size, Value.string X.premium, Value.string X.cells]); exact Calls.regrown_of (HK.out.tc3 _ (HEE.out.kept (below_regrown _ _ _)) (HLE.out.kept (below_regrown _ _ _)))))))
      refine wpQuiet_nil ?_
      intro wF hw'
      have hd : Below w9.heap.size w9 wF := below_of_ex hw'
      clear hw' eb0 eb1 eb2 ep0 ep1 ep2 ep3 ex0 ex1 ex2 eq0 eq1 eq2 eq3 hN1 hN2 hG hT HEE HLE b0 b1 b2 p0 p1 p2 p3 x0 x1 x2 q0 q1 q2 q3
      replace hb := hb.trans ((hd).mono hb.size)
      try replace V3 := Lib.hid (V3.out.kept hd)
      try replace V4 := Lib.hid (V4.out.kept hd)
      try replace V6 := Lib.hid (V6.out.kept hd)
      try replace V8 := Lib.hid (V8.out.kept hd)
      try replace V10 := Lib.hid (V10.out.kept hd)
      try replace V16 := Lib.hid (V16.out.kept hd)
      try replace V18 := Lib.hid (V18.out.kept hd)
      try replace SX := Lib.hid (SX.out.kept hd)
      try replace SU := Lib.hid (SU.out.kept hd)
      try replace SV := Lib.hid (SV.out.kept hd)
      clear hd
      have x0 := V8.out.cell (i := 0) (v := .int .i64 X.size) rfl
      have x1 := V8.out.cell (i := 1) (v := .string X.premium) rfl
      have x2 := V8.out.cell (i := 2) (v := .string X.cells) rfl
      have q0 := V10.out.cell (i := 0) (v := .int .i64 p.col) rfl
      have q1 := V10.out.cell (i := 1) (v := .int .i64 p.row) rfl
      have q2 := V10.out.cell (i := 2) (v := .bool (!p.down)) rfl
      have q3 := V10.out.cell (i := 3) (v := .string p.word) rfl
      have l0 := V4.out.cell (i := 0) (v := .slice (some ⟨g, 0, none⟩) ws.length cap) rfl
      go_wp2_with fail
      refine (HK.out.lg wF (HE.out.kept hb) (HLL.out.kept hb) SX.out).mono ?_
      rintro e wG ⟨rfl, hd⟩
      clear x0 x1 x2 q0 q1 q2 q3 l0
      replace hb := hb.trans ((hd).mono hb.size)
      try replace V3 := Lib.hid (V3.out.kept hd)
      try replace V4 := Lib.hid (V4.out.kept hd)
      try replace V6 := Lib.hid (V6.out.kept hd)
      try replace V8 := Lib.hid (V8.out.kept hd)
      try replace V10 := Lib.hid (V10.out.kept hd)
      try replace V16 := Lib.hid (V16.out.kept hd)
      try replace V18 := Lib.hid (V18.out.kept hd)
      try replace SX := Lib.hid (SX.out.kept hd)
      try replace SU := Lib.hid (SU.out.kept hd)
      try replace SV := Lib.hid (SV.out.kept hd)
      clear hd SX V4
      go_upto_region 14 with fail
      go_cut [105] (fun v wx => v = .bool false ∧ wG = wx)
      case first =>
        rcases HK.out.cases with ⟨h1, h2⟩ | ⟨h1, h2⟩ | ⟨h1, h2⟩
        · clear HK
          subst h1
          have h3 : (a == 4) = false := by rw [beq_eq_false_iff_ne]; exact h2
          go_wp2_with fail
          go_meet
          exact ⟨rfl, rfl⟩
        · clear HK
          subst h1
          have h3 : (c == 4) = false := by rw [beq_eq_false_iff_ne]; exact h2
          go_wp2_with fail
          go_meet
          exact ⟨rfl, rfl⟩
        · clear HK
          subst h2
          have h3 : (a == 4) = false := by rw [beq_eq_false_iff_ne]; exact h1
          go_wp2_with fail
          go_meet
          exact ⟨rfl, rfl⟩
      case rest =>
        obtain ⟨rfl, rfl⟩ := hcut
        have b0 := V3.out.cell (i := 0) (v := .int .i64 b.size) rfl
        have b1 := V3.out.cell (i := 1) (v := .string b.premium) rfl
        have b2 := V3.out.cell (i := 2) (v := .string b.cells) rfl
        have p0 := V6.out.cell (i := 0) (v := .int .i64 p.row) rfl
        have p1 := V6.out.cell (i := 1) (v := .int .i64 p.col) rfl
        have p2 := V6.out.cell (i := 2) (v := .bool p.down) rfl
        have p3 := V6.out.cell (i := 3) (v := .string p.word) rfl
        go_wp2_with fail
        refine (HK.out.wd1 wG (HE.out.kept hb)).mono ?_
        rintro e wH ⟨au, capu, rfl, hu, hd⟩
        clear b0 b1 b2 p0 p1 p2 p3
        replace hb := hb.trans ((hd).mono hb.size)
        try replace V3 := Lib.hid (V3.out.kept hd)
        try replace V4 := Lib.hid (V4.out.kept hd)
        try replace V6 := Lib.hid (V6.out.kept hd)
        try replace V8 := Lib.hid (V8.out.kept hd)
        try replace V10 := Lib.hid (V10.out.kept hd)
        try replace V16 := Lib.hid (V16.out.kept hd)
        try replace V18 := Lib.hid (V18.out.kept hd)
        try replace SX := Lib.hid (SX.out.kept hd)
        try replace SU := Lib.hid (SU.out.kept hd)
        try replace SV := Lib.hid (SV.out.kept hd)
        have SU := Lib.hid hu
        clear hd hu
        have x0 := V8.out.cell (i := 0) (v := .int .i64 X.size) rfl
        have x1 := V8.out.cell (i := 1) (v := .string X.premium) rfl
        have x2 := V8.out.cell (i := 2) (v := .string X.cells) rfl
        have q0 := V10.out.cell (i := 0) (v := .int .i64 p.col) rfl
        have q1 := V10.out.cell (i := 1) (v := .int .i64 p.row) rfl
        have q2 := V10.out.cell (i := 2) (v := .bool (!p.down)) rfl
        have q3 := V10.out.cell (i := 3) (v := .string p.word) rfl
        go_wp2_with fail
        refine (HK.out.wd2 wH (HE.out.kept hb)).mono ?_
        rintro e wI ⟨av, capv, rfl, hv, hd⟩
        clear x0 x1 x2 q0 q1 q2 q3
        replace hb := hb.trans ((hd).mono hb.size)
        try replace V3 := Lib.hid (V3.out.kept hd)
        try replace V4 := Lib.hid (V4.out.kept hd)
        try replace V6 := Lib.hid (V6.out.kept hd)
        try replace V8 := Lib.hid (V8.out.kept hd)
        try replace V10 := Lib.hid (V10.out.kept hd)
        try replace V16 := Lib.hid (V16.out.kept hd)
        try replace V18 := Lib.hid (V18.out.kept hd)
        try replace SX := Lib.hid (SX.out.kept hd)
        try replace SU := Lib.hid (SU.out.kept hd)
        try replace SV := Lib.hid (SV.out.kept hd)
        have SV := Lib.hid hv
        clear hd hv
        have b0 := V3.out.cell (i := 0) (v := .int .i64 b.size) rfl
        have b1 := V3.out.cell (i := 1) (v := .string b.premium) rfl
        have b2 := V3.out.cell (i := 2) (v := .string b.cells) rfl
        have p0 := V6.out.cell (i := 0) (v := .int .i64 p.row) rfl
        have p1 := V6.out.cell (i := 1) (v := .int .i64 p.col) rfl
        have p2 := V6.out.cell (i := 2) (v := .bool p.down) rfl
        have p3 := V6.out.cell (i := 3) (v := .string p.word) rfl
        go_wp2_with fail
        refine (HK.out.mk1 wI (HE.out.kept hb)).mono ?_
        rintro e wJ ⟨rfl, hd⟩
        clear b0 b1 b2 p0 p1 p2 p3
        replace hb := hb.trans ((hd).mono hb.size)
        try replace V3 := Lib.hid (V3.out.kept hd)
        try replace V4 := Lib.hid (V4.out.kept hd)
        try replace V6 := Lib.hid (V6.out.kept hd)
        try replace V8 := Lib.hid (V8.out.kept hd)
        try replace V10 := Lib.hid (V10.out.kept hd)
        try replace V16 := Lib.hid (V16.out.kept hd)
        try replace V18 := Lib.hid (V18.out.kept hd)
        try replace SX := Lib.hid (SX.out.kept hd)
        try replace SU := Lib.hid (SU.out.kept hd)
        try replace SV := Lib.hid (SV.out.kept hd)
        clear hd V3 V6
        have hd : Below wJ.heap.size wJ (wJ.alloc (.cells #[.int .i64 M.size, .string M.premium, .string M.cells] 25)) := (Below.refl _ _).alloc (Nat.le_refl _) _
        have V16 := Lib.hid (VarAt.new wJ 25 [.int .i64 M.size, .string M.premium, .string M.cells])
        replace hb := hb.trans ((hd).mono hb.size)
        try replace V3 := Lib.hid (V3.out.kept hd)
        try replace V4 := Lib.hid (V4.out.kept hd)
        try replace V6 := Lib.hid (V6.out.kept hd)
        try replace V8 := Lib.hid (V8.out.kept hd)
        try replace V10 := Lib.hid (V10.out.kept hd)
        try replace V16 := Lib.hid (V16.out.kept hd)
        try replace V18 := Lib.hid (V18.out.kept hd)
        try replace SX := Lib.hid (SX.out.kept hd)
        try replace SU := Lib.hid (SU.out.kept hd)
        try replace SV := Lib.hid (SV.out.kept hd)
        clear hd
        generalize hB : wJ.heap.size = B16 at *
        obtain ⟨wK, hw⟩ : ∃ wx, wJ.alloc (.cells #[.int .i64 M.size, .string M.premium, .string M.cells] 25) = wx := ⟨_, rfl⟩
        rw [hw] at V16
        rw [hw] at hb
        try rw [hw] at V3
        try rw [hw] at V4
        try rw [hw] at V6
        try rw [hw] at V8
        try rw [hw] at V10
        try rw [hw] at V16
        try rw [hw] at V18
        try rw [hw] at SX
        try rw [hw] at SU
        try rw [hw] at SV
        have x0 := V8.out.cell (i := 0) (v := .int .i64 X.size) rfl
        have x1 := V8.out.cell (i := 1) (v := .string X.premium) rfl
        have x2 := V8.out.cell (i := 2) (v := .string X.cells) rfl
        have q0 := V10.out.cell (i := 0) (v := .int .i64 p.col) rfl
        have q1 := V10.out.cell (i := 1) (v := .int .i64 p.row) rfl
        have q2 := V10.out.cell (i := 2) (v := .bool (!p.down)) rfl
        have q3 := V10.out.cell (i := 3) (v := .string p.word) rfl
        go_wp2_with fail
        clear hw hB
        refine (HK.out.mk2 wK (HE.out.kept hb)).mono ?_
        rintro e wL ⟨rfl, hd⟩
        clear x0 x1 x2 q0 q1 q2 q3
        replace hb := hb.trans ((hd).mono hb.size)
        try replace V3 := Lib.hid (V3.out.kept hd)
        try replace V4 := Lib.hid (V4.out.kept hd)
        try replace V6 := Lib.hid (V6.out.kept hd)
        try replace V8 := Lib.hid (V8.out.kept hd)
        try replace V10 := Lib.hid (V10.out.kept hd)
        try replace V16 := Lib.hid (V16.out.kept hd)
        try replace V18 := Lib.hid (V18.out.kept hd)
        try replace SX := Lib.hid (SX.out.kept hd)
        try replace SU := Lib.hid (SU.out.kept hd)
        try replace SV := Lib.hid (SV.out.kept hd)
        clear hd V8 V10
        have hd : Below wL.heap.size wL (wL.alloc (.cells #[.int .i64 N.size, .string N.premium, .string N.cells] 25)) := (Below.refl _ _).alloc (Nat.le_refl _) _
        have V18 := Lib.hid (VarAt.new wL 25 [.int .i64 N.size, .string N.premium, .string N.cells])
        replace hb := hb.trans ((hd).mono hb.size)
        try replace V3 := Lib.hid (V3.out.kept hd)
        try replace V4 := Lib.hid (V4.out.kept hd)
        try replace V6 := Lib.hid (V6.out.kept hd)
        try replace V8 := Lib.hid (V8.out.kept hd)
        try replace V10 := Lib.hid (V10.out.kept hd)
        try replace V16 := Lib.hid (V16.out.kept hd)
        try replace V18 := Lib.hid (V18.out.kept hd)
        try replace SX := Lib.hid (SX.out.kept hd)
        try replace SU := Lib.hid (SU.out.kept hd)
        try replace SV := Lib.hid (SV.out.kept hd)
        clear hd
        generalize hB : wL.heap.size = B18 at *
        obtain ⟨wM, hw⟩ : ∃ wx, wL.alloc (.cells #[.int .i64 N.size, .string N.premium, .string N.cells] 25) = wx := ⟨_, rfl⟩
        rw [hw] at V18
        rw [hw] at hb
        try rw [hw] at V3
        try rw [hw] at V4
        try rw [hw] at V6
        try rw [hw] at V8
        try rw [hw] at V10
        try rw [hw] at V16
        try rw [hw] at V18
        try rw [hw] at SX
        try rw [hw] at SU
        try rw [hw] at SV
        go_wp2_with fail
        clear hw hB
        refine (f6same_any Wd au av capu capv _ SU.out SV.out HK.out.lenW).mono ?_
        rintro e wN ⟨rfl, hd⟩
        replace hb := hb.trans ((hd).mono hb.size)
        try replace V3 := Lib.hid (V3.out.kept hd)
        try replace V4 := Lib.hid (V4.out.kept hd)
        try replace V6 := Lib.hid (V6.out.kept hd)
        try replace V8 := Lib.hid (V8.out.kept hd)
        try replace V10 := Lib.hid (V10.out.kept hd)
        try replace V16 := Lib.hid (V16.out.kept hd)
        try replace V18 := Lib.hid (V18.out.kept hd)
        try replace SX := Lib.hid (SX.out.kept hd)
        try replace SU := Lib.hid (SU.out.kept hd)
        try replace SV := Lib.hid (SV.out.kept hd)
        clear hd SU SV
        rcases HK.out.code with ⟨rfl, ht⟩ | rfl
        · have HT := Lib.hid ht
          clear ht
          have m0 := V16.out.cell (i := 0) (v := .int .i64 M.size) rfl
          have m1 := V16.out.cell (i := 1) (v := .string M.premium) rfl
          have m2 := V16.out.cell (i := 2) (v := .string M.cells) rfl
          go_wp2_with fail
          refine (HT.out wN).mono ?_
          rintro e wO ⟨rfl, hd⟩
          clear m0 m1 m2 HT V16
          replace hb := hb.trans ((hd).mono hb.size)
          try replace V3 := Lib.hid (V3.out.kept hd)
          try replace V4 := Lib.hid (V4.out.kept hd)
          try replace V6 := Lib.hid (V6.out.kept hd)
          try replace V8 := Lib.hid (V8.out.kept hd)
          try replace V10 := Lib.hid (V10.out.kept hd)
          try replace V16 := Lib.hid (V16.out.kept hd)
          try replace V18 := Lib.hid (V18.out.kept hd)
          try replace SX := Lib.hid (SX.out.kept hd)
          try replace SU := Lib.hid (SU.out.kept hd)
          try replace SV := Lib.hid (SV.out.kept hd)
          clear hd
          have hd : Below wO.heap.size wO (wO.alloc (.cells #[.int .i64 N.size, .string N.premium, .string N.cells] 25)) := (Below.refl _ _).alloc (Nat.le_refl _) _
          have V20 := Lib.hid (VarAt.new wO 25 [.int .i64 N.size, .string N.premium, .string N.cells])
          replace V18 := Lib.hid (V18.out.kept hd)
          replace hb := hb.trans (hd.mono hb.size)
          clear hd
          have n0 := V18.out.cell (i := 0) (v := .int .i64 N.size) rfl
          have n1 := V18.out.cell (i := 1) (v := .string N.premium) rfl
          have n2 := V18.out.cell (i := 2) (v := .string N.cells) rfl
          have k0 := V20.out.cell (i := 0) (v := .int .i64 N.size) rfl
          have k1 := V20.out.cell (i := 1) (v := .string N.premium) rfl
          have k2 := V20.out.cell (i := 2) (v := .string N.cells) rfl
          have hN := eql_brd N.size N.premium N.cells
          have hG := guard_brd
          go_wp2
          go_ret
          exact ⟨rfl, hb⟩
        · go_wp2
          go_ret
          exact ⟨rfl, hb⟩
end Go.Proofs.YtjdcdhhbgijaoaaGreatDoor
