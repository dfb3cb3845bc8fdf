/- The law of FnPlays: for every code the statement's own function answers true. Leans on Go's tables (CEnv) and internal/bytealg's MaxLen (EnvL). -/
import Derived.Test.YtjdcdhhbgijaoaaGreatDoorLpP
import Derived.Test.YtjdcdhhbgijaoaaGreatDoorDbR
import Derived.Deep.DeepCutAuto
import Derived.Deep.CutBlock
namespace Go.Proofs.YtjdcdhhbgijaoaaGreatDoor
open Go.ChangeShapes Go.WideShapes Go.ChangeAt Go.RowKit Go.Sort

/-- what the law asks of a play that fits, behind its first comparisons -/
structure More (b : Brd) (p : Ply) (X : Brd) (T : ByteArray) (L : List (Int × Int)) (Wd : List ByteArray) (on : ByteArray) (c4 : Int) (af : ByteArray) (c5 : Int) (bo : ByteArray) (c6 : Int) (WL : List ByteArray) : Prop where
  on1 : ∀ W, EnvL W → Calls Tryz.prog 49 #[.agg #[.int .i64 b.size, .string b.premium, .string b.cells]] W fun e w' => e = .returned (.tuple #[.string on, .int .i64 c4]) ∧ Below W.heap.size W w'
  on2 : ∀ W, EnvL W → Calls Tryz.prog 49 #[.agg #[.int .i64 X.size, .string X.premium, .string X.cells]] W fun e w' => e = .returned (.tuple #[.string af, .int .i64 c5]) ∧ Below W.heap.size W w'
  add : ∀ W, Calls Tryz.prog 50 #[.string on, .string T] W fun e w' => e = .returned (.tuple #[.string bo, .int .i64 c6]) ∧ Below W.heap.size W w'
  cases : c4 = 5 ∨ (c4 = 0 ∧ c5 = c6 ∧ (c5 = 5 ∨ c5 = 0 ∧ af = bo))
  at1 : ∀ k (h : k < L.length) W, Calls Tryz.prog 51 #[.agg #[.int .i64 b.size, .string b.premium, .string b.cells], .int .i64 L[k].1, .int .i64 L[k].2] W fun e w' => e = .returned (.int .u8 46) ∧ Below W.heap.size W w'
  at2 : ∀ k (h : k < L.length), ∃ v : Int, (v == 46) = false ∧ ∀ W, Calls Tryz.prog 51 #[.agg #[.int .i64 X.size, .string X.premium, .string X.cells], .int .i64 L[k].1, .int .i64 L[k].2] W fun e w' => e = .returned (.int .u8 v) ∧ Below W.heap.size W w'
  words : ∀ W, EnvL W → Calls Tryz.prog 52 #[.agg #[.int .i64 X.size, .string X.premium, .string X.cells]] W fun e w' => ∃ a cap, e = .returned (.tuple #[.slice a WL.length cap, .int .i64 0]) ∧ SliceAt w' 1 Tx.enc a WL ∧ Below W.heap.size W w'
  short : WL.length ≤ 9223372036854775807
  has : ∀ k (h : k < Wd.length), hasB WL Wd[k] = true
  again : ∀ W, CEnv W → Calls Tryz.prog 48 #[.agg #[.int .i64 X.size, .string X.premium, .string X.cells], .agg #[.int .i64 p.row, .int .i64 p.col, .bool p.down, .string p.word]] W fun e w' => e = .returned (.bool false) ∧ Below W.heap.size W w'
  many : L.length = T.size
  some : 0 < L.length
theorem more {b : Brd} {p : Ply} {X : Brd} {T : ByteArray} {L : List (Int × Int)} {Wd : List ByteArray} (h : Fits b p X T L Wd) (hf : b.fit) (hw : p.word.size ≤ 1048576) : ∃ on c4 af c5 bo c6 WL, More b p X T L Wd on c4 af c5 bo c6 WL := by
  refine ⟨(onOut b).1, (onOut b).2, (onOut X).1, (onOut X).2, (addOut (onOut b).1 T).1, (addOut (onOut b).1 T).2, X.wordsOn, ⟨fun W e => TilesOn_any b W hf e, fun W e => TilesOn_any X W h.fitX e, fun W => AddTiles_any _ T W h.sizeA h.sizeT, h.tiles, fun k hk W => ?_, fun k hk => ?_, fun W e => ?_, Nat.le_trans h.short (by decide), fun k hk => h.words _ (List.getElem_mem hk), fun W e => ?_, h.many, h.some⟩⟩
  · have := CellAt_any b L[k].1 L[k].2 W hf
    rwa [h.before _ (List.getElem_mem hk)] at this
  · refine ⟨((atOut X L[k].1 L[k].2).toNat : Int), ?_, fun W => CellAt_any X _ _ W h.fitX⟩
    have := h.after _ (List.getElem_mem hk)
    rw [beq_eq_false_iff_ne]
    intro e
    exact this (u8_46 (by omega))
  · obtain ⟨n, hn⟩ := h.good
    refine (WordsOn_any X n W hn h.fitX e).mono ?_
    rintro e w' ⟨g, cap, rfl, ho, hd⟩
    exact ⟨_, cap, rfl, own_slice Tx.enc_len ho rfl, hd⟩
  · have := ValidPlay_any X p W h.fitX hw e
    rwa [h.again] at this
set_option maxRecDepth 100000 in
set_option maxHeartbeats 8000000 in
theorem lawPlays_any (ca : Option Addr) (ccap : Nat) (bs : List Int) (w : World) (hs : SliceAt w 1 Byt.enc ca bs) (hbd : ∀ x ∈ bs, 0 ≤ x ∧ x ≤ 255) (hE : CEnv w) (hL : EnvL w) :
    Calls Tryz.prog 6 #[.slice ca bs.length ccap] w fun e w' => e = .returned (.bool true) ∧ Below w.heap.size w w' := by
  by_cases hbig : 4096 < bs.length
  · have hd : decide ((4096 : Int) < bs.length) = true := by rw [decide_eq_true_eq]; omega
    clear hs hbd hE hL
    go_enter Tryz.func6, Tryz.ntmps6
    go_wp2_with fail
    refine (f6big_ct ca bs.length ccap w).mono ?_
    rintro e w1 ⟨rfl, rfl⟩
    rw [hd]
    go_wp2
    go_ret
    exact ⟨rfl, Below.refl _ _⟩
  · have hd : decide ((4096 : Int) < bs.length) = false := by rw [decide_eq_false_iff_not]; omega
    have HC : Hid (CodeAt w w.heap.size ca bs) := Lib.hid ⟨hs, hbd, by omega, fun h0 cb co e => by
      obtain ⟨b', o', e', hc⟩ := hs.open h0
      rw [e] at e'
      simp only [Option.some.injEq, Addr.mk.injEq, and_true] at e'
      rw [e'.1]
      exact block_lt (hc.at0 h0 rfl)⟩
    have HE := Lib.hid hE
    have HLL := Lib.hid hL
    clear hs hbd hE hL
    go_enter Tryz.func6, Tryz.ntmps6
    go_wp2_with fail
    refine (f6big_ct ca bs.length ccap w).mono ?_
    rintro e w1 ⟨rfl, rfl⟩
    rw [hd]
    clear hd hbig
    go_wp2_with fail
    refine (DrawMakePlay_any ca ccap bs w HC.out).mono ?_
    rintro e w2 ⟨b, p, hP, hC, hW, rfl, hb⟩
    obtain ⟨X, cd, T, L, Wd, vp, K⟩ := known b p ⟨by omega, by omega⟩ (by omega)
    have HK1 := Lib.hid K.mk1
    have HK2 := Lib.hid K.mk2
    have HK3 := Lib.hid K.sq1
    have HK4 := Lib.hid K.sq2
    have HK5 := Lib.hid K.tl1
    have HK6 := Lib.hid K.tl2
    have HK7 := Lib.hid K.wd1
    have HK8 := Lib.hid K.wd2
    have HVP := Lib.hid K.vp1
    have HL1 := Lib.hid K.lenL
    have HL2 := Lib.hid K.lenW
    have HKC := Lib.hid K.code
    have hbf : b.fit := ⟨by omega, by omega⟩
    have hpw : p.word.size ≤ 1048576 := by omega
    have HMORE := Lib.hid (fun (h : Fits b p X T L Wd) => more h hbf hpw)
    clear K hP hC hW HC hbf hpw
    have hd : Below w2.heap.size w2 ((w2.alloc (.cells #[.int .i64 b.size, .string b.premium, .string b.cells] 25)).alloc (.cells #[.int .i64 p.row, .int .i64 p.col, .bool p.down, .string p.word] 30)) := ((Below.refl _ _).alloc (Nat.le_refl _) _).alloc (by simp) _
    have V3 := Lib.hid ((VarAt.new w2 25 [.int .i64 b.size, .string b.premium, .string b.cells]).kept ((Below.refl _ _).alloc (Nat.le_refl _) (.cells #[.int .i64 p.row, .int .i64 p.col, .bool p.down, .string p.word] 30)))
    have V4 : Hid (VarAt ((w2.alloc (.cells #[.int .i64 b.size, .string b.premium, .string b.cells] 25)).alloc (.cells #[.int .i64 p.row, .int .i64 p.col, .bool p.down, .string p.word] 30)) (w2.heap.size + 1) 30 [.int .i64 p.row, .int .i64 p.col, .bool p.down, .string p.word]) := by
      have := VarAt.new (w2.alloc (.cells #[.int .i64 b.size, .string b.premium, .string b.cells] 25)) 30 [.int .i64 p.row, .int .i64 p.col, .bool p.down, .string p.word]
      simp only [World.size_alloc] at this
      exact Lib.hid this
    replace hb := hb.trans (hd.mono hb.size)
    clear hd
    generalize hB : w2.heap.size = B3 at *
    obtain ⟨w3, hw⟩ : ∃ wE, (w2.alloc (.cells #[.int .i64 b.size, .string b.premium, .string b.cells] 25)).alloc (.cells #[.int .i64 p.row, .int .i64 p.col, .bool p.down, .string p.word] 30) = wE := ⟨_, rfl⟩
    rw [hw] at hb V3 V4
    have b0 := V3.out.cell (i := 0) (v := .int .i64 b.size) rfl
    have b1 := V3.out.cell (i := 1) (v := .string b.premium) rfl
    have b2 := V3.out.cell (i := 2) (v := .string b.cells) rfl
    have p0 := V4.out.cell (i := 0) (v := .int .i64 p.row) rfl
    have p1 := V4.out.cell (i := 1) (v := .int .i64 p.col) rfl
    have p2 := V4.out.cell (i := 2) (v := .bool p.down) rfl
    have p3 := V4.out.cell (i := 3) (v := .string p.word) rfl
    go_wp2_with fail
    clear hw hB
    refine (HK1.out w3 (HE.out.kept hb)).mono ?_
    rintro e w4 ⟨rfl, hd⟩
    clear b0 b1 b2 p0 p1 p2 p3
    replace hb := hb.trans ((hd).mono hb.size)
    try replace V3 := Lib.hid (V3.out.kept hd)
    try replace V4 := Lib.hid (V4.out.kept hd)
    try replace V5 := Lib.hid (V5.out.kept hd)
    try replace V7 := Lib.hid (V7.out.kept hd)
    try replace SL := Lib.hid (SL.out.kept hd)
    try replace SQ := Lib.hid (SQ.out.kept hd)
    try replace SW := Lib.hid (SW.out.kept hd)
    try replace SF := Lib.hid (SF.out.kept hd)
    clear hd HK1
    have hd : Below w4.heap.size w4 (w4.alloc (.cells #[.int .i64 X.size, .string X.premium, .string X.cells] 25)) := (Below.refl _ _).alloc (Nat.le_refl _) _
    have V5 := Lib.hid (VarAt.new w4 25 [.int .i64 X.size, .string X.premium, .string X.cells])
    replace hb := hb.trans ((hd).mono hb.size)
    try replace V3 := Lib.hid (V3.out.kept hd)
    try replace V4 := Lib.hid (V4.out.kept hd)
    try replace V5 := Lib.hid (V5.out.kept hd)
    try replace V7 := Lib.hid (V7.out.kept hd)
    try replace SL := Lib.hid (SL.out.kept hd)
    try replace SQ := Lib.hid (SQ.out.kept hd)
    try replace SW := Lib.hid (SW.out.kept hd)
    try replace SF := Lib.hid (SF.out.kept hd)
    clear hd
    generalize hB : w4.heap.size = B5 at *
    obtain ⟨w5, hw⟩ : ∃ wx, w4.alloc (.cells #[.int .i64 X.size, .string X.premium, .string X.cells] 25) = wx := ⟨_, rfl⟩
    rw [hw] at V5
    rw [hw] at hb
    try rw [hw] at V3
    try rw [hw] at V4
    try rw [hw] at V5
    have b0 := V3.out.cell (i := 0) (v := .int .i64 b.size) rfl
    have b1 := V3.out.cell (i := 1) (v := .string b.premium) rfl
    have b2 := V3.out.cell (i := 2) (v := .string b.cells) rfl
    have p0 := V4.out.cell (i := 0) (v := .int .i64 p.row) rfl
    have p1 := V4.out.cell (i := 1) (v := .int .i64 p.col) rfl
    have p2 := V4.out.cell (i := 2) (v := .bool p.down) rfl
    have p3 := V4.out.cell (i := 3) (v := .string p.word) rfl
    go_wp2_with fail
    clear hw hB
    refine (HK2.out w5).mono ?_
    rintro e w6 ⟨rfl, hd⟩
    clear b0 b1 b2 p0 p1 p2 p3
    replace hb := hb.trans ((hd).mono hb.size)
    try replace V3 := Lib.hid (V3.out.kept hd)
    try replace V4 := Lib.hid (V4.out.kept hd)
    try replace V5 := Lib.hid (V5.out.kept hd)
    try replace V7 := Lib.hid (V7.out.kept hd)
    try replace SL := Lib.hid (SL.out.kept hd)
    try replace SQ := Lib.hid (SQ.out.kept hd)
    try replace SW := Lib.hid (SW.out.kept hd)
    try replace SF := Lib.hid (SF.out.kept hd)
    clear hd HK2
    have hd : Below w6.heap.size w6 (w6.alloc (.cells #[.int .i64 X.size, .string X.premium, .string X.cells] 25)) := (Below.refl _ _).alloc (Nat.le_refl _) _
    have V7 := Lib.hid (VarAt.new w6 25 [.int .i64 X.size, .string X.premium, .string X.cells])
    replace hb := hb.trans ((hd).mono hb.size)
    try replace V3 := Lib.hid (V3.out.kept hd)
    try replace V4 := Lib.hid (V4.out.kept hd)
    try replace V5 := Lib.hid (V5.out.kept hd)
    try replace V7 := Lib.hid (V7.out.kept hd)
    try replace SL := Lib.hid (SL.out.kept hd)
    try replace SQ := Lib.hid (SQ.out.kept hd)
    try replace SW := Lib.hid (SW.out.kept hd)
    try replace SF := Lib.hid (SF.out.kept hd)
    clear hd
    generalize hB : w6.heap.size = B7 at *
    obtain ⟨w7, hw⟩ : ∃ wx, w6.alloc (.cells #[.int .i64 X.size, .string X.premium, .string X.cells] 25) = wx := ⟨_, rfl⟩
    rw [hw] at V7
    rw [hw] at hb
    try rw [hw] at V3
    try rw [hw] at V4
    try rw [hw] at V5
    have b0 := V3.out.cell (i := 0) (v := .int .i64 b.size) rfl
    have b1 := V3.out.cell (i := 1) (v := .string b.premium) rfl
    have b2 := V3.out.cell (i := 2) (v := .string b.cells) rfl
    have p0 := V4.out.cell (i := 0) (v := .int .i64 p.row) rfl
    have p1 := V4.out.cell (i := 1) (v := .int .i64 p.col) rfl
    have p2 := V4.out.cell (i := 2) (v := .bool p.down) rfl
    have p3 := V4.out.cell (i := 3) (v := .string p.word) rfl
    go_wp2_with fail
    clear hw hB
    refine (HK3.out w7 (HE.out.kept hb)).mono ?_
    rintro e w8 ⟨a9, cap9, rfl, h9, hd⟩
    clear b0 b1 b2 p0 p1 p2 p3
    replace hb := hb.trans ((hd).mono hb.size)
    try replace V3 := Lib.hid (V3.out.kept hd)
    try replace V4 := Lib.hid (V4.out.kept hd)
    try replace V5 := Lib.hid (V5.out.kept hd)
    try replace V7 := Lib.hid (V7.out.kept hd)
    try replace SL := Lib.hid (SL.out.kept hd)
    try replace SQ := Lib.hid (SQ.out.kept hd)
    try replace SW := Lib.hid (SW.out.kept hd)
    try replace SF := Lib.hid (SF.out.kept hd)
    have SL := Lib.hid h9
    clear hd HK3 h9
    have b0 := V3.out.cell (i := 0) (v := .int .i64 b.size) rfl
    have b1 := V3.out.cell (i := 1) (v := .string b.premium) rfl
    have b2 := V3.out.cell (i := 2) (v := .string b.cells) rfl
    have p0 := V4.out.cell (i := 0) (v := .int .i64 p.row) rfl
    have p1 := V4.out.cell (i := 1) (v := .int .i64 p.col) rfl
    have p2 := V4.out.cell (i := 2) (v := .bool p.down) rfl
    have p3 := V4.out.cell (i := 3) (v := .string p.word) rfl
    go_wp2_with fail
    refine (HK4.out w8).mono ?_
    rintro e w9 ⟨a11, cap11, rfl, h9, hd⟩
    clear b0 b1 b2 p0 p1 p2 p3
    replace hb := hb.trans ((hd).mono hb.size)
    try replace V3 := Lib.hid (V3.out.kept hd)
    try replace V4 := Lib.hid (V4.out.kept hd)
    try replace V5 := Lib.hid (V5.out.kept hd)
    try replace V7 := Lib.hid (V7.out.kept hd)
    try replace SL := Lib.hid (SL.out.kept hd)
    try replace SQ := Lib.hid (SQ.out.kept hd)
    try replace SW := Lib.hid (SW.out.kept hd)
    try replace SF := Lib.hid (SF.out.kept hd)
    have SQ := Lib.hid h9
    clear hd HK4 h9
    have b0 := V3.out.cell (i := 0) (v := .int .i64 b.size) rfl
    have b1 := V3.out.cell (i := 1) (v := .string b.premium) rfl
    have b2 := V3.out.cell (i := 2) (v := .string b.cells) rfl
    have p0 := V4.out.cell (i := 0) (v := .int .i64 p.row) rfl
    have p1 := V4.out.cell (i := 1) (v := .int .i64 p.col) rfl
    have p2 := V4.out.cell (i := 2) (v := .bool p.down) rfl
    have p3 := V4.out.cell (i := 3) (v := .string p.word) rfl
    go_wp2_with fail
    refine (HK5.out w9 (HE.out.kept hb)).mono ?_
    rintro e w10 ⟨rfl, hd⟩
    clear b0 b1 b2 p0 p1 p2 p3
    replace hb := hb.trans ((hd).mono hb.size)
    try replace V3 := Lib.hid (V3.out.kept hd)
    try replace V4 := Lib.hid (V4.out.kept hd)
    try replace V5 := Lib.hid (V5.out.kept hd)
    try replace V7 := Lib.hid (V7.out.kept hd)
    try replace SL := Lib.hid (SL.out.kept hd)
    try replace SQ := Lib.hid (SQ.out.kept hd)
    try replace SW := Lib.hid (SW.out.kept hd)
    try replace SF := Lib.hid (SF.out.kept hd)
    clear hd HK5
    have b0 := V3.out.cell (i := 0) (v := .int .i64 b.size) rfl
    have b1 := V3.out.cell (i := 1) (v := .string b.premium) rfl
    have b2 := V3.out.cell (i := 2) (v := .string b.cells) rfl
    have p0 := V4.out.cell (i := 0) (v := .int .i64 p.row) rfl
    have p1 := V4.out.cell (i := 1) (v := .int .i64 p.col) rfl
    have p2 := V4.out.cell (i := 2) (v := .bool p.down) rfl
    have p3 := V4.out.cell (i := 3) (v := .string p.word) rfl
    go_wp2_with fail
    refine (HK6.out w10).mono ?_
    rintro e w11 ⟨rfl, hd⟩
    clear b0 b1 b2 p0 p1 p2 p3
    replace hb := hb.trans ((hd).mono hb.size)
    try replace V3 := Lib.hid (V3.out.kept hd)
    try replace V4 := Lib.hid (V4.out.kept hd)
    try replace V5 := Lib.hid (V5.out.kept hd)
    try replace V7 := Lib.hid (V7.out.kept hd)
    try replace SL := Lib.hid (SL.out.kept hd)
    try replace SQ := Lib.hid (SQ.out.kept hd)
    try replace SW := Lib.hid (SW.out.kept hd)
    try replace SF := Lib.hid (SF.out.kept hd)
    clear hd HK6
    have b0 := V3.out.cell (i := 0) (v := .int .i64 b.size) rfl
    have b1 := V3.out.cell (i := 1) (v := .string b.premium) rfl
    have b2 := V3.out.cell (i := 2) (v := .string b.cells) rfl
    have p0 := V4.out.cell (i := 0) (v := .int .i64 p.row) rfl
    have p1 := V4.out.cell (i := 1) (v := .int .i64 p.col) rfl
    have p2 := V4.out.cell (i := 2) (v := .bool p.down) rfl
    have p3 := V4.out.cell (i := 3) (v := .string p.word) rfl
    go_wp2_with fail
    refine (HK7.out w11 (HE.out.kept hb)).mono ?_
    rintro e w12 ⟨a17, cap17, rfl, h9, hd⟩
    clear b0 b1 b2 p0 p1 p2 p3
    replace hb := hb.trans ((hd).mono hb.size)
    try replace V3 := Lib.hid (V3.out.kept hd)
    try replace V4 := Lib.hid (V4.out.kept hd)
    try replace V5 := Lib.hid (V5.out.kept hd)
    try replace V7 := Lib.hid (V7.out.kept hd)
    try replace SL := Lib.hid (SL.out.kept hd)
    try replace SQ := Lib.hid (SQ.out.kept hd)
    try replace SW := Lib.hid (SW.out.kept hd)
    try replace SF := Lib.hid (SF.out.kept hd)
    have SW := Lib.hid h9
    clear hd HK7 h9
    have b0 := V3.out.cell (i := 0) (v := .int .i64 b.size) rfl
    have b1 := V3.out.cell (i := 1) (v := .string b.premium) rfl
    have b2 := V3.out.cell (i := 2) (v := .string b.cells) rfl
    have p0 := V4.out.cell (i := 0) (v := .int .i64 p.row) rfl
    have p1 := V4.out.cell (i := 1) (v := .int .i64 p.col) rfl
    have p2 := V4.out.cell (i := 2) (v := .bool p.down) rfl
    have p3 := V4.out.cell (i := 3) (v := .string p.word) rfl
    go_wp2_with fail
    refine (HK8.out w12).mono ?_
    rintro e wE ⟨a19, cap19, rfl, h9, hd⟩
    clear b0 b1 b2 p0 p1 p2 p3
    replace hb := hb.trans ((hd).mono hb.size)
    try replace V3 := Lib.hid (V3.out.kept hd)
    try replace V4 := Lib.hid (V4.out.kept hd)
    try replace V5 := Lib.hid (V5.out.kept hd)
    try replace V7 := Lib.hid (V7.out.kept hd)
    try replace SL := Lib.hid (SL.out.kept hd)
    try replace SQ := Lib.hid (SQ.out.kept hd)
    try replace SW := Lib.hid (SW.out.kept hd)
    try replace SF := Lib.hid (SF.out.kept hd)
    have SF := Lib.hid h9
    clear hd HK8 h9
    have b0 := V3.out.cell (i := 0) (v := .int .i64 b.size) rfl
    have b1 := V3.out.cell (i := 1) (v := .string b.premium) rfl
    have b2 := V3.out.cell (i := 2) (v := .string b.cells) rfl
    have p0 := V4.out.cell (i := 0) (v := .int .i64 p.row) rfl
    have p1 := V4.out.cell (i := 1) (v := .int .i64 p.col) rfl
    have p2 := V4.out.cell (i := 2) (v := .bool p.down) rfl
    have p3 := V4.out.cell (i := 3) (v := .string p.word) rfl
    rcases HKC.out with ⟨rfl, rfl, hfit⟩ | ⟨rfl, rfl⟩
    · obtain ⟨on, c4, af, c5, bo, c6, WL, M⟩ := HMORE.out hfit
      have HM := Lib.hid M
      clear hfit HKC HMORE M
      go_upto_region 12 with fail
      have x0 := V5.out.cell (i := 0) (v := .int .i64 X.size) rfl
      have x1 := V5.out.cell (i := 1) (v := .string X.premium) rfl
      have x2 := V5.out.cell (i := 2) (v := .string X.cells) rfl
      have y0 := V7.out.cell (i := 0) (v := .int .i64 X.size) rfl
      have y1 := V7.out.cell (i := 1) (v := .string X.premium) rfl
      have y2 := V7.out.cell (i := 2) (v := .string X.cells) rfl
      have hN := neq_brd X.size X.premium X.cells
      have hG := guard_brd
      have hT : (T.toList != T.toList) = false := bne_self_eq_false _
      clear b0 b1 b2 p0 p1 p2 p3
      go_wp2_with fail
      refine (f6squares_any L a9 a11 cap9 cap11 _ SL.out SQ.out HL1.out).mono ?_
      rintro e wE1 ⟨rfl, hd⟩
      clear x0 x1 x2 y0 y1 y2
      replace hb := hb.trans ((hd).mono hb.size)
      try replace V3 := Lib.hid (V3.out.kept hd)
      try replace V4 := Lib.hid (V4.out.kept hd)
      try replace V5 := Lib.hid (V5.out.kept hd)
      try replace V7 := Lib.hid (V7.out.kept hd)
      try replace SL := Lib.hid (SL.out.kept hd)
      try replace SQ := Lib.hid (SQ.out.kept hd)
      try replace SW := Lib.hid (SW.out.kept hd)
      try replace SF := Lib.hid (SF.out.kept hd)
      clear hd SQ V7 hN hG
      go_wp2_with fail
      refine (f6same_any Wd a17 a19 cap17 cap19 _ SW.out SF.out HL2.out).mono ?_
      rintro e wE2 ⟨rfl, hd⟩
      replace hb := hb.trans ((hd).mono hb.size)
      try replace V3 := Lib.hid (V3.out.kept hd)
      try replace V4 := Lib.hid (V4.out.kept hd)
      try replace V5 := Lib.hid (V5.out.kept hd)
      try replace V7 := Lib.hid (V7.out.kept hd)
      try replace SL := Lib.hid (SL.out.kept hd)
      try replace SQ := Lib.hid (SQ.out.kept hd)
      try replace SW := Lib.hid (SW.out.kept hd)
      try replace SF := Lib.hid (SF.out.kept hd)
      clear hd SF
      have b0 := V3.out.cell (i := 0) (v := .int .i64 b.size) rfl
      have b1 := V3.out.cell (i := 1) (v := .string b.premium) rfl
      have b2 := V3.out.cell (i := 2) (v := .string b.cells) rfl
      have p0 := V4.out.cell (i := 0) (v := .int .i64 p.row) rfl
      have p1 := V4.out.cell (i := 1) (v := .int .i64 p.col) rfl
      have p2 := V4.out.cell (i := 2) (v := .bool p.down) rfl
      have p3 := V4.out.cell (i := 3) (v := .string p.word) rfl
      go_wp2_with fail
      refine (HVP.out _ (HE.out.kept hb)).mono ?_
      rintro e wF ⟨rfl, hd⟩
      clear hT
      clear b0 b1 b2 p0 p1 p2 p3
      replace hb := hb.trans ((hd).mono hb.size)
      try replace V3 := Lib.hid (V3.out.kept hd)
      try replace V4 := Lib.hid (V4.out.kept hd)
      try replace V5 := Lib.hid (V5.out.kept hd)
      try replace V7 := Lib.hid (V7.out.kept hd)
      try replace SL := Lib.hid (SL.out.kept hd)
      try replace SQ := Lib.hid (SQ.out.kept hd)
      try replace SW := Lib.hid (SW.out.kept hd)
      try replace SF := Lib.hid (SF.out.kept hd)
      clear hd HVP
      have b0 := V3.out.cell (i := 0) (v := .int .i64 b.size) rfl
      have b1 := V3.out.cell (i := 1) (v := .string b.premium) rfl
      have b2 := V3.out.cell (i := 2) (v := .string b.cells) rfl
      go_wp2_with fail
      refine (HM.out.on1 wF (HLL.out.kept hb)).mono ?_
      rintro e wG ⟨rfl, hd⟩
      clear b0 b1 b2
      replace hb := hb.trans ((hd).mono hb.size)
      try replace V3 := Lib.hid (V3.out.kept hd)
      try replace V4 := Lib.hid (V4.out.kept hd)
      try replace V5 := Lib.hid (V5.out.kept hd)
      try replace V7 := Lib.hid (V7.out.kept hd)
      try replace SL := Lib.hid (SL.out.kept hd)
      try replace SQ := Lib.hid (SQ.out.kept hd)
      try replace SW := Lib.hid (SW.out.kept hd)
      try replace SF := Lib.hid (SF.out.kept hd)
      clear hd
      have x0 := V5.out.cell (i := 0) (v := .int .i64 X.size) rfl
      have x1 := V5.out.cell (i := 1) (v := .string X.premium) rfl
      have x2 := V5.out.cell (i := 2) (v := .string X.cells) rfl
      go_wp2_with fail
      refine (HM.out.on2 wG (HLL.out.kept hb)).mono ?_
      rintro e wH ⟨rfl, hd⟩
      clear x0 x1 x2
      replace hb := hb.trans ((hd).mono hb.size)
      try replace V3 := Lib.hid (V3.out.kept hd)
      try replace V4 := Lib.hid (V4.out.kept hd)
      try replace V5 := Lib.hid (V5.out.kept hd)
      try replace V7 := Lib.hid (V7.out.kept hd)
      try replace SL := Lib.hid (SL.out.kept hd)
      try replace SQ := Lib.hid (SQ.out.kept hd)
      try replace SW := Lib.hid (SW.out.kept hd)
      try replace SF := Lib.hid (SF.out.kept hd)
      clear hd
      go_wp2_with fail
      refine (HM.out.add wH).mono ?_
      rintro e wI ⟨rfl, hd⟩
      replace hb := hb.trans ((hd).mono hb.size)
      try replace V3 := Lib.hid (V3.out.kept hd)
      try replace V4 := Lib.hid (V4.out.kept hd)
      try replace V5 := Lib.hid (V5.out.kept hd)
      try replace V7 := Lib.hid (V7.out.kept hd)
      try replace SL := Lib.hid (SL.out.kept hd)
      try replace SQ := Lib.hid (SQ.out.kept hd)
      try replace SW := Lib.hid (SW.out.kept hd)
      try replace SF := Lib.hid (SF.out.kept hd)
      clear hd
      go_upto_region 19 with fail
      go_cut [167] (fun v wx => v = .bool false ∧ wI = wx)
      case first =>
        rcases HM.out.cases with h | ⟨h, h1, h2 | ⟨h2, h3⟩⟩
        · clear HM
          subst h
          go_wp2_with fail
          go_meet
          exact ⟨rfl, rfl⟩
        · clear HM
          subst h
          subst h1
          subst h2
          go_wp2_with fail
          go_meet
          exact ⟨rfl, rfl⟩
        · clear HM
          subst h
          subst h1
          subst h2
          subst h3
          have hT : (af.toList != af.toList) = false := bne_self_eq_false _
          go_wp2_with fail
          go_meet
          exact ⟨rfl, rfl⟩
      case rest =>
        obtain ⟨rfl, rfl⟩ := hcut
        go_upto_block 0 with fail
        go_cut [] (fun wx => Below wI.heap.size wI wx)
        case first =>
          have hk := Below.refl wI.heap.size wI
          go_wp2_with fail
          go_loopw [27] (fun iv wr => ∃ k : Nat, k ≤ L.length ∧ iv = .int .i64 k ∧ Below wI.heap.size wI wr) (fun iv _ => L.length - (intOf iv).toNat)
          case atStart => exact ⟨0, Nat.zero_le _, rfl, hk⟩
          case round =>
            clear hk
            obtain ⟨k, hk9, rfl, hk⟩ := hrel
            have hl1 := HL1.out
            by_cases hlt : k < L.length
            · obtain ⟨mb, mo, rfl, hc⟩ := SL.out.open hlt
              have c0 := cell_kept (hc k hlt 0 _ rfl) hk
              have c1 := cell_kept (hc k hlt 1 _ rfl) hk
              simp only [Nat.add_zero] at c0
              have HA1 := Lib.hid (HM.out.at1 k hlt)
              obtain ⟨v, hv, ha2⟩ := HM.out.at2 k hlt
              have HA2 := Lib.hid ha2
              clear hc ha2 HM SL SW
              generalize L[k] = s at *
              have b0 := cell_kept (V3.out.cell (i := 0) (v := .int .i64 b.size) rfl) hk
              have b1 := cell_kept (V3.out.cell (i := 1) (v := .string b.premium) rfl) hk
              have b2 := cell_kept (V3.out.cell (i := 2) (v := .string b.cells) rfl) hk
              have x0 := cell_kept (V5.out.cell (i := 0) (v := .int .i64 X.size) rfl) hk
              have x1 := cell_kept (V5.out.cell (i := 1) (v := .string X.premium) rfl) hk
              have x2 := cell_kept (V5.out.cell (i := 2) (v := .string X.cells) rfl) hk
              have hkI : (k : Int) < (L.length : Int) := by omega
              go_upto_region 24 with fail
              have e0 := cell_regrown c0
              have e1 := cell_regrown c1
              have eb0 := cell_regrown b0
              have eb1 := cell_regrown b1
              have eb2 := cell_regrown b2
              have ex0 := cell_regrown x0
              have ex1 := cell_regrown x1
              have ex2 := cell_regrown x2
              refine wp_region_quiet_below (by kernel_rfl) (by kernel_rfl) ?_
              repeat (go_big_quiet_step ((first
                | (go_at_call_of 51 (Value.agg #[Value.int .i64 b.size, Value.string b.premium, Value.string b.cells]); exact Calls.regrown_of (HA1.out _))
                | (go_at_call_of 51 (Value.agg #[Value.int .i64 X.size, Value.string X.premium, Value.string X.cells]); exact Calls.regrown_of (HA2.out _)))))
              refine wpQuiet_nil ?_
              intro wx hw'
              have hd := below_of_ex hw'
              clear hw' e0 e1 eb0 eb1 eb2 ex0 ex1 ex2 b0 b1 b2 x0 x1 x2 c0 c1 HA1 HA2
              have hk2 := hk.trans (hd.mono hk.size)
              clear hd hk
              go_wp2
              go_roundw
              case rel => exact ⟨k + 1, by omega, by go_num, hk2⟩
              case measure => simp [intOf]; omega
            · go_wp2_with fail
              go_meet
              exact hk
        case rest =>
          generalize wc = wJ at *
          replace hb := hb.trans ((hcut).mono hb.size)
          try replace V3 := Lib.hid (V3.out.kept hcut)
          try replace V4 := Lib.hid (V4.out.kept hcut)
          try replace V5 := Lib.hid (V5.out.kept hcut)
          try replace V7 := Lib.hid (V7.out.kept hcut)
          try replace SL := Lib.hid (SL.out.kept hcut)
          try replace SQ := Lib.hid (SQ.out.kept hcut)
          try replace SW := Lib.hid (SW.out.kept hcut)
          try replace SF := Lib.hid (SF.out.kept hcut)
          clear hcut
          have x0 := V5.out.cell (i := 0) (v := .int .i64 X.size) rfl
          have x1 := V5.out.cell (i := 1) (v := .string X.premium) rfl
          have x2 := V5.out.cell (i := 2) (v := .string X.cells) rfl
          go_wp2_with fail
          refine (HM.out.words wJ (HLL.out.kept hb)).mono ?_
          rintro e wK ⟨aA, capA, rfl, hA, hd⟩
          clear x0 x1 x2
          replace hb := hb.trans ((hd).mono hb.size)
          try replace V3 := Lib.hid (V3.out.kept hd)
          try replace V4 := Lib.hid (V4.out.kept hd)
          try replace V5 := Lib.hid (V5.out.kept hd)
          try replace V7 := Lib.hid (V7.out.kept hd)
          try replace SL := Lib.hid (SL.out.kept hd)
          try replace SQ := Lib.hid (SQ.out.kept hd)
          try replace SW := Lib.hid (SW.out.kept hd)
          try replace SF := Lib.hid (SF.out.kept hd)
          have SA := Lib.hid hA
          clear hd hA
          have HS := Lib.hid HM.out.short
          go_upto_block 2 with fail
          go_cut [] (fun wx => wK = wx)
          case first =>
            obtain ⟨wo, rfl⟩ : ∃ wo : World, wo = wK := ⟨_, rfl⟩
            go_wp2_with fail
            go_loopw [30] (fun iv wr => ∃ k : Nat, k ≤ Wd.length ∧ iv = .int .i64 k ∧ wo = wr) (fun iv _ => Wd.length - (intOf iv).toNat)
            case atStart => exact ⟨0, Nat.zero_le _, rfl, rfl⟩
            case round =>
              obtain ⟨k, hk9, rfl, rfl⟩ := hrel
              have hl2 := HL2.out
              by_cases hlt : k < Wd.length
              · obtain ⟨mb, mo, rfl, hc⟩ := SW.out.open hlt
                have c0 := hc.at0 hlt rfl
                rw [Nat.mul_one] at c0
                have HH := Lib.hid (HM.out.has k hlt)
                clear hc HM
                generalize Wd[k] = x at *
                have hkI : (k : Int) < (Wd.length : Int) := by omega
                go_wp2_with fail
                refine (f6has_any WL x aA capA _ SA.out HS.out).mono ?_
                rintro e wL ⟨rfl, rfl⟩
                rw [HH.out]
                go_wp2
                go_roundw
                case rel => exact ⟨k + 1, by omega, by go_num, by trivial⟩
                case measure => simp [intOf]; omega
              · go_wp2_with fail
                go_meet
                rfl
          case rest =>
            subst hcut
            have hm : (L.length : Int) = (T.size : Int) := by have := HM.out.many; omega
            have hs0 : (0 : Int) < (L.length : Int) := by have := HM.out.some; omega
            have hs1 : (0 : Int) < (T.size : Int) := by omega
            have x0 := V5.out.cell (i := 0) (v := .int .i64 X.size) rfl
            have x1 := V5.out.cell (i := 1) (v := .string X.premium) rfl
            have x2 := V5.out.cell (i := 2) (v := .string X.cells) rfl
            have p0 := V4.out.cell (i := 0) (v := .int .i64 p.row) rfl
            have p1 := V4.out.cell (i := 1) (v := .int .i64 p.col) rfl
            have p2 := V4.out.cell (i := 2) (v := .bool p.down) rfl
            have p3 := V4.out.cell (i := 3) (v := .string p.word) rfl
            go_wp2_with fail
            refine (HM.out.again _ (HE.out.kept hb)).mono ?_
            rintro e wM ⟨rfl, hd⟩
            replace hb := hb.trans (hd.mono hb.size)
            clear hd x0 x1 x2 p0 p1 p2 p3
            go_wp2
            go_ret
            exact ⟨rfl, hb⟩
    · clear HKC HMORE
      go_upto_region 12 with fail
      have x0 := V5.out.cell (i := 0) (v := .int .i64 X.size) rfl
      have x1 := V5.out.cell (i := 1) (v := .string X.premium) rfl
      have x2 := V5.out.cell (i := 2) (v := .string X.cells) rfl
      have y0 := V7.out.cell (i := 0) (v := .int .i64 X.size) rfl
      have y1 := V7.out.cell (i := 1) (v := .string X.premium) rfl
      have y2 := V7.out.cell (i := 2) (v := .string X.cells) rfl
      have hN := neq_brd X.size X.premium X.cells
      have hG := guard_brd
      have hT : (T.toList != T.toList) = false := bne_self_eq_false _
      clear b0 b1 b2 p0 p1 p2 p3
      go_wp2_with fail
      refine (f6squares_any L a9 a11 cap9 cap11 _ SL.out SQ.out HL1.out).mono ?_
      rintro e wE1 ⟨rfl, hd⟩
      clear x0 x1 x2 y0 y1 y2
      replace hb := hb.trans ((hd).mono hb.size)
      try replace V3 := Lib.hid (V3.out.kept hd)
      try replace V4 := Lib.hid (V4.out.kept hd)
      try replace V5 := Lib.hid (V5.out.kept hd)
      try replace V7 := Lib.hid (V7.out.kept hd)
      try replace SL := Lib.hid (SL.out.kept hd)
      try replace SQ := Lib.hid (SQ.out.kept hd)
      try replace SW := Lib.hid (SW.out.kept hd)
      try replace SF := Lib.hid (SF.out.kept hd)
      clear hd SQ V7 hN hG
      go_wp2_with fail
      refine (f6same_any Wd a17 a19 cap17 cap19 _ SW.out SF.out HL2.out).mono ?_
      rintro e wE2 ⟨rfl, hd⟩
      replace hb := hb.trans ((hd).mono hb.size)
      try replace V3 := Lib.hid (V3.out.kept hd)
      try replace V4 := Lib.hid (V4.out.kept hd)
      try replace V5 := Lib.hid (V5.out.kept hd)
      try replace V7 := Lib.hid (V7.out.kept hd)
      try replace SL := Lib.hid (SL.out.kept hd)
      try replace SQ := Lib.hid (SQ.out.kept hd)
      try replace SW := Lib.hid (SW.out.kept hd)
      try replace SF := Lib.hid (SF.out.kept hd)
      clear hd SF
      have b0 := V3.out.cell (i := 0) (v := .int .i64 b.size) rfl
      have b1 := V3.out.cell (i := 1) (v := .string b.premium) rfl
      have b2 := V3.out.cell (i := 2) (v := .string b.cells) rfl
      have p0 := V4.out.cell (i := 0) (v := .int .i64 p.row) rfl
      have p1 := V4.out.cell (i := 1) (v := .int .i64 p.col) rfl
      have p2 := V4.out.cell (i := 2) (v := .bool p.down) rfl
      have p3 := V4.out.cell (i := 3) (v := .string p.word) rfl
      go_wp2_with fail
      refine (HVP.out _ (HE.out.kept hb)).mono ?_
      rintro e wF ⟨rfl, hd⟩
      clear hT
      clear b0 b1 b2 p0 p1 p2 p3
      replace hb := hb.trans ((hd).mono hb.size)
      try replace V3 := Lib.hid (V3.out.kept hd)
      try replace V4 := Lib.hid (V4.out.kept hd)
      try replace V5 := Lib.hid (V5.out.kept hd)
      try replace V7 := Lib.hid (V7.out.kept hd)
      try replace SL := Lib.hid (SL.out.kept hd)
      try replace SQ := Lib.hid (SQ.out.kept hd)
      try replace SW := Lib.hid (SW.out.kept hd)
      try replace SF := Lib.hid (SF.out.kept hd)
      clear hd HVP
      go_wp2
      go_ret
      exact ⟨rfl, hb⟩
end Go.Proofs.YtjdcdhhbgijaoaaGreatDoor
