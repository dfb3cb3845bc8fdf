/- The statement FnExactWrongWords: the program's words that a play forms and a lexicon does not have are the reference's. Go's tables of unicode and unicode/utf8 hold what is laid (CEnv). -/
import Derived.Test.YtoeoijkhlpacdaaGreatDoorWrC
import Derived.Test.YtoeoijkhlpacdaaGreatDoorTLx
import Derived.Test.YtoeoijkhlpacdaaGreatDoorTBoard
import Derived.Test.YtoeoijkhlpacdaaGreatDoorTPlay
import Derived.Test.YtoeoijkhlpacdaaGreatDoorCEnv
namespace Go.Proofs.YtoeoijkhlpacdaaGreatDoor
open Go.ChangeShapes Go.WideShapes Go.ChangeAt Go.RowKit Go.Sort

set_option maxHeartbeats 400000 in
theorem markLexicon_any (ms : List ByteArray) (a : Option Addr) (cap : Nat) (base : Nat) (c0 : Int) (w : World) (hm : w.ownsRow base 9 1 (.slice a ms.length cap) ms.length (ms.flatMap Tx.enc)) (hl : ms.length ≤ 9223372036854775807) (h0 : 0 ≤ c0) (h1 : c0 + ms.length ≤ 1099511627776) :
    Calls Tryz.prog 35 #[.agg #[.slice a ms.length cap], .int .i64 c0] w fun e w' => ∃ wz, Below w.heap.size w wz ∧ MarkPost wz base 9 1 (.slice a ms.length cap) ms.length ((Tx.marks c0 ms.length).flatMap Tx.enc) (c0 + ms.length) e w' := by
  have hb : Below w.heap.size w (w.alloc (.cells #[.slice a ms.length cap] 59)) := (Below.refl _ _).alloc (Nat.le_refl _) _
  have HO := Lib.hid (own_below hm hb)
  clear hm
  go_enter Tryz.func35, Tryz.ntmps35
  go_wp2_with fail
  refine (markStringS_any ms a cap base c0 _ HO.out hl h0 h1).mono ?_
  rintro e w2 ⟨rfl, ho, hg⟩
  have HO2 := Lib.hid ho
  have HG := Lib.hid hg
  clear ho hg
  go_wp2
  go_ret
  exact ⟨_, hb, rfl, HO2.out, HG.out⟩
/-- texts in a row of the call's own, and a code -/
def WP (ms : List ByteArray) (k : Int) (w : World) (e : Ending) (w' : World) : Prop :=
  ∃ a cap, e = .returned (.tuple #[.slice a ms.length cap, .int .i64 k]) ∧ w'.ownsRow w.heap.size 9 1 (.slice a ms.length cap) ms.length (ms.flatMap Tx.enc) ∧ Below w.heap.size w w'
theorem wrong_parts (b : Brd) (p : Ply) (ws : List ByteArray) : ∃ (ms : List ByteArray) (k : Int), ms.length ≤ 13 ∧ ∀ w e w', WrongPost b p ws w e w' → WP ms k w e w' := by
  cases h : (lexOk ws && b.okPlay p) with
  | false =>
    refine ⟨[], 1, by simp, fun w e w' hw => ?_⟩
    unfold WrongPost at hw
    rw [h] at hw
    obtain ⟨rfl, hd⟩ := hw
    exact ⟨none, 0, rfl, ⟨by simp, .inl ⟨rfl, rfl⟩⟩, hd⟩
  | true =>
    obtain ⟨n, hg⟩ := okPlay_good (Bool.and_eq_true _ _ ▸ h).2
    refine ⟨wrongL ws (b.words p), 0, Nat.le_trans (wrongL_len _ _) (words_len hg), fun w e w' hw => ?_⟩
    unfold WrongPost at hw
    rw [h] at hw
    obtain ⟨g, cap, rfl, ho, hd⟩ := hw
    exact ⟨some ⟨g, 0, none⟩, cap, rfl, ho, hd⟩
set_option maxRecDepth 100000 in
set_option maxHeartbeats 8000000 in
theorem lawWrongWords_any (b : Brd) (p : Ply) (ws : List ByteArray) (a : Option Addr) (cap : Nat) (w : World) (hm : SliceAt w 1 Tx.enc a ws) (hf : b.fit) (hpf : p.fit) (hl : ws.length ≤ 9223372036854775807) (hwf : WordsFit ws) (hE : CEnv w) :
    Calls Tryz.prog 6 #[.agg #[.int .i64 b.size, .string b.premium, .string b.cells], .agg #[.slice a ws.length cap], .agg #[.int .i64 p.row, .int .i64 p.col, .bool p.down, .string p.word]] w fun e w' => e = .returned (.bool true) ∧ Below w.heap.size w w' := by
  obtain ⟨w2, hw2⟩ : ∃ w2, w2 = ((w.alloc (.cells #[.int .i64 b.size, .string b.premium, .string b.cells] 26)).alloc (.cells #[.slice a ws.length cap] 53)).alloc (.cells #[.int .i64 p.row, .int .i64 p.col, .bool p.down, .string p.word] 55) := ⟨_, rfl⟩
  have hb : Below w.heap.size w w2 := by rw [hw2]; exact (((Below.refl _ _).alloc (Nat.le_refl _) _).alloc (by simp) _).alloc (by simp; omega) _
  have VB : Hid (VarAt w2 w.heap.size 26 [.int .i64 b.size, .string b.premium, .string b.cells]) := by
    rw [hw2]
    exact Lib.hid (((VarAt.new w 26 [.int .i64 b.size, .string b.premium, .string b.cells]).kept ((Below.refl _ _).alloc (Nat.le_refl _) _)).kept ((Below.refl _ _).alloc (Nat.le_refl _) _))
  have VL : Hid (VarAt w2 (w.heap.size + 1) 53 [.slice a ws.length cap]) := by
    rw [hw2]
    have := (VarAt.new (w.alloc (.cells #[.int .i64 b.size, .string b.premium, .string b.cells] 26)) 53 [.slice a ws.length cap]).kept ((Below.refl _ _).alloc (Nat.le_refl _) (.cells #[.int .i64 p.row, .int .i64 p.col, .bool p.down, .string p.word] 55))
    simp only [World.size_alloc] at this
    exact Lib.hid this
  have VP : Hid (VarAt w2 (w.heap.size + 2) 55 [.int .i64 p.row, .int .i64 p.col, .bool p.down, .string p.word]) := by
    rw [hw2]
    have := VarAt.new ((w.alloc (.cells #[.int .i64 b.size, .string b.premium, .string b.cells] 26)).alloc (.cells #[.slice a ws.length cap] 53)) 55 [.int .i64 p.row, .int .i64 p.col, .bool p.down, .string p.word]
    simp only [World.size_alloc] at this
    exact Lib.hid this
  obtain ⟨ms, kc, hml, hwp⟩ := wrong_parts b p ws
  have SA := Lib.hid (hm.kept hb)
  have HF := Lib.hid hwf
  have HSP : Hid (∀ ar W, SliceAt W 1 Tx.enc ar ws → Calls Tryz.prog 30 #[.agg #[.int .i64 b.size, .string b.premium, .string b.cells], .agg #[.slice ar ws.length ws.length], .agg #[.int .i64 p.row, .int .i64 p.col, .bool p.down, .string p.word]] W (WP ms kc W)) := Lib.hid (fun ar W h => (specWrongWords_any b p ws ar ws.length W h hf hpf hl HF.out).mono (fun e w' => hwp W e w'))
  have HIM : Hid (p.word.size ≤ 1048576 → ∀ ar W, SliceAt W 1 Tx.enc ar ws → CEnv W → Calls Tryz.prog 33 #[.agg #[.int .i64 b.size, .string b.premium, .string b.cells], .agg #[.slice ar ws.length ws.length], .agg #[.int .i64 p.row, .int .i64 p.col, .bool p.down, .string p.word]] W (WP ms kc W)) := Lib.hid (fun hs ar W h he => (WrongWords_any b p ws ar ws.length W h hf hs hl HF.out he).mono (fun e w' => hwp W e w'))
  have HE := Lib.hid (hE.kept hb)
  have HW2 := Lib.hid hw2
  clear hw2 hwp hE hm hwf
  go_enter Tryz.func6, Tryz.ntmps6
  go_upto_region 2 with fail
  rw [← HW2.out]
  clear HW2
  have b0 := VB.out.cell (i := 0) rfl
  have b1 := VB.out.cell (i := 1) rfl
  have b2 := VB.out.cell (i := 2) rfl
  go_wp2_with fail
  refine (szBoard_any b 1048576 _ (by omega) (by omega) hf).mono ?_
  rintro e w3 ⟨l1, rfl, z1, hd⟩
  replace hb := hb.trans (hd.mono hb.size)
  replace b0 := cell_kept b0 hd
  replace b1 := cell_kept b1 hd
  replace b2 := cell_kept b2 hd
  replace VB := Lib.hid (VB.out.kept hd)
  replace VP := Lib.hid (VP.out.kept hd)
  replace VL := Lib.hid (VL.out.kept hd)
  replace SA := Lib.hid (SA.out.kept hd)
  replace HE := Lib.hid (HE.out.kept hd)
  clear hd
  clear b0 b1 b2
  rcases z1 with rfl | ⟨y1, z1⟩
  · go_wp2
    go_ret
    exact ⟨rfl, hb⟩
  have n1 : ¬ l1 < 0 := by omega
  have l0 := VL.out.cell (i := 0) rfl
  go_wp2_with fail
  refine (szLexicon_any ws a cap l1 _ SA.out hl HF.out (by omega) (by omega)).mono ?_
  rintro e w4 ⟨l2, rfl, z2, hd⟩
  clear l0
  replace hb := hb.trans (hd.mono hb.size)
  replace VB := Lib.hid (VB.out.kept hd)
  replace VP := Lib.hid (VP.out.kept hd)
  replace VL := Lib.hid (VL.out.kept hd)
  replace SA := Lib.hid (SA.out.kept hd)
  replace HE := Lib.hid (HE.out.kept hd)
  clear hd
  rcases z2 with rfl | ⟨y2, z2⟩
  · go_wp2
    go_ret
    exact ⟨rfl, hb⟩
  have n2 : ¬ l2 < 0 := by omega
  have hl2 : ws.length ≤ 1048576 := by omega
  have p0 := VP.out.cell (i := 0) rfl
  have p1 := VP.out.cell (i := 1) rfl
  have p2 := VP.out.cell (i := 2) rfl
  have p3 := VP.out.cell (i := 3) rfl
  go_wp2_with fail
  refine (szPlay_any p l2 _ (by omega) (by omega) hpf).mono ?_
  rintro e w5 ⟨l3, rfl, z3, hd⟩
  clear p0 p1 p2 p3
  replace hb := hb.trans (hd.mono hb.size)
  replace VB := Lib.hid (VB.out.kept hd)
  replace VP := Lib.hid (VP.out.kept hd)
  replace VL := Lib.hid (VL.out.kept hd)
  replace SA := Lib.hid (SA.out.kept hd)
  replace HE := Lib.hid (HE.out.kept hd)
  clear hd
  rcases z3 with rfl | ⟨y3, z3⟩
  · go_wp2
    go_ret
    exact ⟨rfl, hb⟩
  have n3 : ¬ l3 < 0 := by omega
  have hps : p.word.size ≤ 1048576 := by unfold Ply.sz at z3; omega
  replace HIM := Lib.hid (HIM.out hps)
  clear z1 z2 z3 y1 y2 y3 hps hf hpf
  go_upto_region 11 with fail
  have VX := VL
  have hd : Below w5.heap.size w5 w5.drew := (Below.refl _ _).drew
  replace hb := hb.trans (hd.mono hb.size)
  replace VB := Lib.hid (VB.out.kept hd)
  replace VP := Lib.hid (VP.out.kept hd)
  replace VX := Lib.hid (VX.out.kept hd)
  replace SA := Lib.hid (SA.out.kept hd)
  replace HE := Lib.hid (HE.out.kept hd)
  clear hd
  go_region_held3 (fun w' => w'.cell? ⟨w.heap.size, 0, none⟩ = some (.int .i64 b.size) ∧ w'.cell? ⟨w.heap.size, 1, none⟩ = some (.string b.premium) ∧ w'.cell? ⟨w.heap.size, 2, none⟩ = some (.string b.cells) ∧ w'.cell? ⟨w.heap.size + 2, 0, none⟩ = some (.int .i64 p.row) ∧ w'.cell? ⟨w.heap.size + 2, 1, none⟩ = some (.int .i64 p.col) ∧ w'.cell? ⟨w.heap.size + 2, 2, none⟩ = some (.bool p.down) ∧ w'.cell? ⟨w.heap.size + 2, 3, none⟩ = some (.string p.word) ∧ w'.cell? ⟨w.heap.size + 1, 0, none⟩ = some (.slice a ws.length cap))
    (exact ⟨VB.out.cell (i := 0) rfl, VB.out.cell (i := 1) rfl, VB.out.cell (i := 2) rfl, VP.out.cell (i := 0) rfl, VP.out.cell (i := 1) rfl, VP.out.cell (i := 2) rfl, VP.out.cell (i := 3) rfl, VX.out.cell (i := 0) rfl⟩)
    (((first | (go_at_call 14; refine (toBoard_any b _).mono ?_; rintro e wq ⟨rfl, hd⟩) | (go_at_call 32; refine (toPlay_any p _).mono ?_; rintro e wq ⟨rfl, hd⟩) | (go_at_call 31; refine (toLexicon_any ws a cap _ SA.out hl2).mono ?_; rintro e wq ⟨rq, rfl, hoq, hd⟩; have SQ := Lib.hid (own_slice Tx.enc_len hoq rfl); clear hoq) | (go_at_call 30; refine (HSP.out _ _ SQ.out).mono ?_; rintro e wq ⟨a1, cap1, rfl, o1, hd⟩)); (try replace SQ := Lib.hid (SQ.out.kept hd)); replace VB := Lib.hid (VB.out.kept hd); replace VP := Lib.hid (VP.out.kept hd); replace VX := Lib.hid (VX.out.kept hd); replace SA := Lib.hid (SA.out.kept hd); replace HE := Lib.hid (HE.out.kept hd); replace hb := hb.trans (hd.mono hb.size); clear hd))
  generalize wq = w6 at *
  have S1 := Lib.hid (own_slice Tx.enc_len o1 rfl)
  have VL := VX
  clear o1 SQ HSP VX
  have VBA := VB
  have VPA := VP
  have VLA := VL
  have SAA := SA
  have S1A := S1
  have HEA := HE
  have hbA := hb
  replace hb : Below w6.heap.size w6 w6 := Below.refl _ _
  have l0 := VL.out.cell (i := 0) rfl
  go_wp2_with fail
  refine (toLexicon_any ws a cap _ SA.out hl2).mono ?_
  rintro e w7 ⟨r1, rfl, ho, hd⟩
  have hr1 := ho.lt r1 rfl
  have O9 := Lib.hid ho
  clear ho l0
  replace hb := hb.trans (hd.mono hb.size)
  clear hd
  have hd : Below w7.heap.size w7 (w7.alloc (.cells #[.slice (some ⟨r1, 0, none⟩) ws.length ws.length] 59)) := (Below.refl _ _).alloc (Nat.le_refl _) _
  have VX := Lib.hid (VarAt.new w7 59 [.slice (some ⟨r1, 0, none⟩) ws.length ws.length])
  replace O9 := Lib.hid (own_below O9.out hd)
  replace hb := hb.trans (hd.mono hb.size)
  clear hd
  go_upto_region 13 with fail
  have hx7 : w7.heap.size < (w7.alloc (.cells #[.slice (some ⟨r1, 0, none⟩) ws.length ws.length] 59)).heap.size := by simp
  generalize w7.alloc (.cells #[.slice (some ⟨r1, 0, none⟩) ws.length ws.length] 59) = w8 at *
  generalize w7.heap.size = x1 at *
  have hd : Below w8.heap.size w8 w8.drew := (Below.refl _ _).drew
  replace VX := Lib.hid (VX.out.kept hd)
  replace O9 := Lib.hid (own_below O9.out hd)
  replace hb := hb.trans (hd.mono hb.size)
  have hz8 : w8.heap.size ≤ w8.drew.heap.size := hd.size
  clear hd
  replace VB := Lib.hid (VBA.out.kept hb)
  replace VP := Lib.hid (VPA.out.kept hb)
  replace VL := Lib.hid (VLA.out.kept hb)
  replace SA := Lib.hid (SAA.out.kept hb)
  replace S1 := Lib.hid (S1A.out.kept hb)
  replace HE := Lib.hid (HEA.out.kept hb)
  have hq : Below w8.heap.size w8 w8.drew := (Below.refl _ _).drew
  go_region_held3 (fun w' => w'.cell? ⟨w.heap.size, 0, none⟩ = some (.int .i64 b.size) ∧ w'.cell? ⟨w.heap.size, 1, none⟩ = some (.string b.premium) ∧ w'.cell? ⟨w.heap.size, 2, none⟩ = some (.string b.cells) ∧ w'.cell? ⟨w.heap.size + 2, 0, none⟩ = some (.int .i64 p.row) ∧ w'.cell? ⟨w.heap.size + 2, 1, none⟩ = some (.int .i64 p.col) ∧ w'.cell? ⟨w.heap.size + 2, 2, none⟩ = some (.bool p.down) ∧ w'.cell? ⟨w.heap.size + 2, 3, none⟩ = some (.string p.word) ∧ w'.cell? ⟨x1, 0, none⟩ = some (.slice (some ⟨r1, 0, none⟩) ws.length ws.length))
    (exact ⟨VB.out.cell (i := 0) rfl, VB.out.cell (i := 1) rfl, VB.out.cell (i := 2) rfl, VP.out.cell (i := 0) rfl, VP.out.cell (i := 1) rfl, VP.out.cell (i := 2) rfl, VP.out.cell (i := 3) rfl, VX.out.cell (i := 0) rfl⟩)
    (((first | (go_at_call 14; refine (toBoard_any b _).mono ?_; rintro e wq ⟨rfl, hd⟩) | (go_at_call 32; refine (toPlay_any p _).mono ?_; rintro e wq ⟨rfl, hd⟩) | (go_at_call 31; refine (toLexicon_any ws a cap _ SA.out hl2).mono ?_; rintro e wq ⟨rq, rfl, hoq, hd⟩; have SQ := Lib.hid (own_slice Tx.enc_len hoq rfl); clear hoq) | (go_at_call 33; refine (HIM.out _ _ (own_slice Tx.enc_len O9.out rfl) HE.out).mono ?_; rintro e wq ⟨a2, cap2, rfl, o2, hd⟩)); (try have O2 := Lib.hid (own_mono o2 hq.size)) <;> (try replace hq := hq.trans (hd.mono hq.size)) <;> replace O9 := Lib.hid (own_below O9.out hd); replace VB := Lib.hid (VB.out.kept hd); replace VP := Lib.hid (VP.out.kept hd); replace VX := Lib.hid (VX.out.kept hd); replace SA := Lib.hid (SA.out.kept hd); replace HE := Lib.hid (HE.out.kept hd); replace hb := hb.trans (hd.mono hb.size); clear hd))
  generalize wq = w9 at *
  have hx2 : w6.heap.size ≤ r1 := hr1.1
  clear o2 hq
  replace S1 := Lib.hid (S1A.out.kept hb)
  have S2 := Lib.hid (own_slice Tx.enc_len O2.out rfl)
  have hkk : (kc != kc) = false := by simp
  go_wp2_with fail
  refine (eqStringS_any ms _ _ cap2 cap1 _ S2.out S1.out (by omega)).mono ?_
  rintro e w10 ⟨rfl, hd⟩
  replace O2 := Lib.hid (own_below O2.out hd)
  replace O9 := Lib.hid (own_below O9.out hd)
  replace VX := Lib.hid (VX.out.kept hd)
  replace hb := hb.trans (hd.mono hb.size)
  clear hd S1 S2 VB VP HE
  have VL := Lib.hid (VLA.out.kept hb)
  replace SA := Lib.hid (SAA.out.kept hb)
  go_upto_region 16 with fail
  have hd : Below w10.heap.size w10 w10.drew := (Below.refl _ _).drew
  replace O2 := Lib.hid (own_below O2.out hd)
  replace O9 := Lib.hid (own_below O9.out hd)
  replace hb := hb.trans (hd.mono hb.size)
  replace VL := Lib.hid (VL.out.kept hd)
  replace VX := Lib.hid (VX.out.kept hd)
  replace SA := Lib.hid (SA.out.kept hd)
  clear hd
  have S9 := Lib.hid (own_slice Tx.enc_len O9.out rfl)
  go_region_held3 (fun w' => w'.cell? ⟨w.heap.size + 1, 0, none⟩ = some (.slice a ws.length cap) ∧ w'.cell? ⟨x1, 0, none⟩ = some (.slice (some ⟨r1, 0, none⟩) ws.length ws.length))
    (exact ⟨VL.out.cell (i := 0) rfl, VX.out.cell (i := 0) rfl⟩)
    (((first
      | (go_at_call 31; refine (toLexicon_any ws a cap _ SA.out hl2).mono ?_; rintro e wq ⟨r3, rfl, hoq, hd⟩; have S3 := Lib.hid (own_slice Tx.enc_len hoq rfl); clear hoq)
      | (go_at_call 34; refine (eqLexicon_any ws _ _ _ _ _ S9.out S3.out (by omega)).mono ?_; rintro e wq ⟨rfl, hd⟩)); replace VL := Lib.hid (VL.out.kept hd); replace VX := Lib.hid (VX.out.kept hd); replace SA := Lib.hid (SA.out.kept hd); replace S9 := Lib.hid (S9.out.kept hd); replace O2 := Lib.hid (own_below O2.out hd); replace O9 := Lib.hid (own_below O9.out hd); replace hb := hb.trans (hd.mono hb.size); clear hd))
  generalize wq = w11 at *
  clear S3 S9 VL SA
  have l1 := VX.out.cell (i := 0) rfl
  go_wp2_with fail
  refine (markLexicon_any ws (some ⟨r1, 0, none⟩) ws.length _ 1 _ O9.out (by omega) (by omega) (by omega)).mono ?_
  rintro e w12 ⟨wz, hd, rfl, ho, hg⟩
  replace O2 := Lib.hid (own_below O2.out hd)
  replace O9 := Lib.hid (own_below O9.out hd)
  replace hb := hb.trans (hd.mono hb.size)
  clear hd l1 VX
  replace O2 := Lib.hid (O2.out.kept hg (.inr fun h => by have := (O2.out.lt r1 h).1; omega))
  replace hb := hb.grown hg hb.size (fun k hk => by have e := Option.some.inj (show some r1 = some k from hk); omega)
  clear hg ho O9
  have S1 := Lib.hid (S1A.out.kept hb)
  have S2 := Lib.hid (own_slice Tx.enc_len O2.out rfl)
  have hm1 : ¬ (1 : Int) + (ws.length : Int) < 0 := by omega
  go_wp2_with fail
  refine (eqStringS_any ms _ _ cap2 cap1 _ S2.out S1.out (by omega)).mono ?_
  rintro e w13 ⟨rfl, hd⟩
  replace O2 := Lib.hid (own_below O2.out hd)
  replace hb := hb.trans (hd.mono hb.size)
  clear hd S1 S2
  go_wp2_with fail
  refine (markStringS_any ms _ cap2 _ 1 _ O2.out (by omega) (by omega) (by omega)).mono ?_
  rintro e w14 ⟨rfl, ho, hg⟩
  replace hb := hb.grown hg hb.size (fun q h => by have := (O2.out.lt q h).1; omega)
  have SM := Lib.hid (own_slice Tx.enc_len ho (Tx.marks_len 1 ms.length).symm)
  clear ho hg O2
  have hm2 : ¬ (1 : Int) + (ms.length : Int) < 0 := by omega
  go_wp2_with fail
  refine (heldStringS_any ms.length _ cap2 1 _ SM.out (by omega) (by omega) (by omega)).mono ?_
  rintro e w15 ⟨rfl, hd⟩
  replace SM := Lib.hid (SM.out.kept hd)
  replace hb := hb.trans (hd.mono hb.size)
  clear hd
  have VB := Lib.hid (VBA.out.kept hb)
  have VP := Lib.hid (VPA.out.kept hb)
  have VX := Lib.hid (VLA.out.kept hb)
  have SA := Lib.hid (SAA.out.kept hb)
  have S1 := Lib.hid (S1A.out.kept hb)
  have HE := Lib.hid (HEA.out.kept hb)
  clear VBA VPA VLA SAA S1A HEA
  go_upto_region 30 with fail
  have hd : Below w15.heap.size w15 w15.drew := (Below.refl _ _).drew
  replace hb := hb.trans (hd.mono hb.size)
  replace VB := Lib.hid (VB.out.kept hd)
  replace VP := Lib.hid (VP.out.kept hd)
  replace VX := Lib.hid (VX.out.kept hd)
  replace SA := Lib.hid (SA.out.kept hd)
  replace S1 := Lib.hid (S1.out.kept hd)
  replace SM := Lib.hid (SM.out.kept hd)
  replace HE := Lib.hid (HE.out.kept hd)
  clear hd
  go_region_held3 (fun w' => w'.cell? ⟨w.heap.size, 0, none⟩ = some (.int .i64 b.size) ∧ w'.cell? ⟨w.heap.size, 1, none⟩ = some (.string b.premium) ∧ w'.cell? ⟨w.heap.size, 2, none⟩ = some (.string b.cells) ∧ w'.cell? ⟨w.heap.size + 2, 0, none⟩ = some (.int .i64 p.row) ∧ w'.cell? ⟨w.heap.size + 2, 1, none⟩ = some (.int .i64 p.col) ∧ w'.cell? ⟨w.heap.size + 2, 2, none⟩ = some (.bool p.down) ∧ w'.cell? ⟨w.heap.size + 2, 3, none⟩ = some (.string p.word) ∧ w'.cell? ⟨w.heap.size + 1, 0, none⟩ = some (.slice a ws.length cap))
    (exact ⟨VB.out.cell (i := 0) rfl, VB.out.cell (i := 1) rfl, VB.out.cell (i := 2) rfl, VP.out.cell (i := 0) rfl, VP.out.cell (i := 1) rfl, VP.out.cell (i := 2) rfl, VP.out.cell (i := 3) rfl, VX.out.cell (i := 0) rfl⟩)
    (((first | (go_at_call 14; refine (toBoard_any b _).mono ?_; rintro e wq ⟨rfl, hd⟩) | (go_at_call 32; refine (toPlay_any p _).mono ?_; rintro e wq ⟨rfl, hd⟩) | (go_at_call 31; refine (toLexicon_any ws a cap _ SA.out hl2).mono ?_; rintro e wq ⟨rq, rfl, hoq, hd⟩; have SQ := Lib.hid (own_slice Tx.enc_len hoq rfl); clear hoq) | (go_at_call 33; refine (HIM.out _ _ SQ.out HE.out).mono ?_; rintro e wq ⟨a3, cap3, rfl, o3, hd⟩)); (try replace SQ := Lib.hid (SQ.out.kept hd)) <;> replace S1 := Lib.hid (S1.out.kept hd) <;> replace SM := Lib.hid (SM.out.kept hd); replace VB := Lib.hid (VB.out.kept hd); replace VP := Lib.hid (VP.out.kept hd); replace VX := Lib.hid (VX.out.kept hd); replace SA := Lib.hid (SA.out.kept hd); replace HE := Lib.hid (HE.out.kept hd); replace hb := hb.trans (hd.mono hb.size); clear hd))
  generalize wq = w16 at *
  have S3 := Lib.hid (own_slice Tx.enc_len o3 rfl)
  clear o3 SQ VB VP VX SA HE
  go_wp2_with fail
  refine (eqStringS_any ms _ _ cap3 cap1 _ S3.out S1.out (by omega)).mono ?_
  rintro e w17 ⟨rfl, hd⟩
  replace hb := hb.trans (hd.mono hb.size)
  replace SM := Lib.hid (SM.out.kept hd)
  clear hd S1 S3
  go_wp2_with fail
  refine (heldStringS_any ms.length _ cap2 1 _ SM.out (by omega) (by omega) (by omega)).mono ?_
  rintro e w18 ⟨rfl, hd⟩
  replace hb := hb.trans (hd.mono hb.size)
  clear hd
  go_wp2
  go_ret
  exact ⟨rfl, hbA.trans (hb.mono hbA.size)⟩
open Go.Joins Go.Deep Go.Lib in
theorem cenvW_of_laid {W : World} (h : laidMetH Tryz.prog Rows.fnExactWrongWordsRow.laid W) : CEnv W := by
  rw [MakeChecks.laidMetH_plain _ _ _ (by kernel_rfl)] at h
  exact cenv_of_met h (List.mem_cons_self) (List.mem_cons_of_mem _ (List.mem_cons_self)) (List.mem_cons_of_mem _ (List.mem_cons_of_mem _ (List.mem_cons_self)))
end Go.Proofs.YtoeoijkhlpacdaaGreatDoor
