/- The statement FnExactBestPlay: the program's best play of a list is the reference's. Go's tables of unicode and unicode/utf8 hold what is laid (CEnv). -/
import Derived.Test.YtofcampipllegaaGreatDoorBpH
import Derived.Test.YtofcampipllegaaGreatDoorTPlayS
import Derived.Test.YtofcampipllegaaGreatDoorCEnv
import Derived.Test.YtofcampipllegaaGreatDoorFrame
namespace Go.Proofs.YtofcampipllegaaGreatDoor
open Go.ChangeShapes Go.WideShapes Go.ChangeAt Go.RowKit Go.Sort

set_option maxRecDepth 100000 in
set_option maxHeartbeats 8000000 in
theorem lawBestPlay_any (x : Tls) (q : TlA) (b : Brd) (ps : List Ply) (a : Option Addr) (cap : Nat) (w : World) (ha : x.At q w) (hft : x.fit) (hf : b.fit) (hm : SliceAt w 4 Ply.enc a ps) (hpf : ∀ p ∈ ps, p.fit) (hl : ps.length ≤ 9223372036854775807) (hE : CEnv w) :
    Calls Tryz.prog 3 #[.agg #[.string x.letters, .slice q.values.a x.values.length q.values.c, .slice q.counts.a x.counts.length q.counts.c, .int .i64 x.blanks], .agg #[.int .i64 b.size, .string b.premium, .string b.cells], .slice a ps.length cap] w fun e w' => e = .returned (.bool true) ∧ Below w.heap.size w w' := by
  obtain ⟨w2, hw2⟩ : ∃ w2, w2 = (w.alloc (.cells #[.string x.letters, .slice q.values.a x.values.length q.values.c, .slice q.counts.a x.counts.length q.counts.c, .int .i64 x.blanks] 24)).alloc (.cells #[.int .i64 b.size, .string b.premium, .string b.cells] 26) := ⟨_, rfl⟩
  have hb : Below w.heap.size w w2 := by rw [hw2]; exact ((Below.refl _ _).alloc (Nat.le_refl _) _).alloc (by simp) _
  have VT : Hid (VarAt w2 w.heap.size 24 [.string x.letters, .slice q.values.a x.values.length q.values.c, .slice q.counts.a x.counts.length q.counts.c, .int .i64 x.blanks]) := by
    rw [hw2]
    exact Lib.hid ((VarAt.new w 24 [.string x.letters, .slice q.values.a x.values.length q.values.c, .slice q.counts.a x.counts.length q.counts.c, .int .i64 x.blanks]).kept ((Below.refl _ _).alloc (Nat.le_refl _) _))
  have VB : Hid (VarAt w2 (w.heap.size + 1) 26 [.int .i64 b.size, .string b.premium, .string b.cells]) := by
    rw [hw2]
    have := VarAt.new (w.alloc (.cells #[.string x.letters, .slice q.values.a x.values.length q.values.c, .slice q.counts.a x.counts.length q.counts.c, .int .i64 x.blanks] 24)) 26 [.int .i64 b.size, .string b.premium, .string b.cells]
    simp only [World.size_alloc] at this
    exact Lib.hid this
  have SA := Lib.hid (ha.kept hb)
  have SM := Lib.hid (hm.kept hb)
  have HSP : Hid (∀ r c d W, x.At r W → SliceAt W 4 Ply.enc c ps → Calls Tryz.prog 15 #[.agg #[.string x.letters, .slice r.values.a x.values.length r.values.c, .slice r.counts.a x.counts.length r.counts.c, .int .i64 x.blanks], .agg #[.int .i64 b.size, .string b.premium, .string b.cells], .slice c ps.length d] W fun e w' => e = .returned (.tuple #[.int .i64 (bestR x b ps).1, .int .i64 (bestR x b ps).2.1, .int .i64 (bestR x b ps).2.2]) ∧ Below W.heap.size W w') := Lib.hid (fun r c d W h h2 => specBestPlay_any x r b ps c d W h hft hf hpf hl h2)
  have HIM : Hid (x.letters.size ≤ 1048576 → (∀ p ∈ ps, p.word.size ≤ 1048576) → ps.length ≤ 1048576 → ∀ r c d W, x.At r W → SliceAt W 4 Ply.enc c ps → CEnv W → Calls Tryz.prog 19 #[.agg #[.string x.letters, .slice r.values.a x.values.length r.values.c, .slice r.counts.a x.counts.length r.counts.c, .int .i64 x.blanks], .agg #[.int .i64 b.size, .string b.premium, .string b.cells], .slice c ps.length d] W fun e w' => e = .returned (.tuple #[.int .i64 (bestR x b ps).1, .int .i64 (bestR x b ps).2.1, .int .i64 (bestR x b ps).2.2]) ∧ Below W.heap.size W w') := Lib.hid (fun h1 h2 h3 r c d W h h4 he => implBestPlay_any x r b ps c d W h hft h1 hf h2 h3 he h4)
  have HEP : Hid (∀ c d e f W, SliceAt W 4 Ply.enc c ps → SliceAt W 4 Ply.enc d ps → Calls Tryz.prog 21 #[.slice c ps.length e, .slice d ps.length f] W fun e w' => e = .returned (.bool true) ∧ Below W.heap.size W w') := Lib.hid (fun c d e f W h h2 => eqPlayS_any ps c d e f W h h2 hl)
  have HZP : Hid (∀ (l : Int) W, 0 ≤ l → l ≤ 1048576 → SliceAt W 4 Ply.enc a ps → Calls Tryz.prog 14 #[.slice a ps.length cap, .int .i64 l] W (SzPost W l (ps.length + szAll Ply.sz ps))) := Lib.hid (fun l W h0 h1 h => szPlayS_any ps a cap l W h hl hpf h0 h1)
  have HTP : Hid (ps.length ≤ 1048576 → ∀ W, SliceAt W 4 Ply.enc a ps → Calls Tryz.prog 18 #[.slice a ps.length cap] W fun e w' => ∃ g, e = .returned (.slice (some ⟨g, 0, none⟩) ps.length ps.length) ∧ SliceAt w' 4 Ply.enc (some ⟨g, 0, none⟩) ps ∧ Below W.heap.size W w') := Lib.hid (fun h0 W h => (toPlayS_any ps a cap W h h0).mono (by
    rintro e w' ⟨g, rfl, ho, hd⟩
    exact ⟨g, rfl, own_slice Ply.enc_len ho rfl, hd⟩))
  have HMS : Hid (ps.length + szAll Ply.sz ps ≤ 1048576 → ∀ p ∈ ps, p.word.size ≤ 1048576) := Lib.hid (fun h p hp => by
    have h2 : p.word.size ≤ szAll Ply.sz ps := szAll_mem (f := Ply.sz) hp
    omega)
  generalize (bestR x b ps).1 = r0 at *
  generalize (bestR x b ps).2.1 = rs at *
  generalize (bestR x b ps).2.2 = rc at *
  have HE := Lib.hid (hE.kept hb)
  have HFT := Lib.hid hft
  have HW2 := Lib.hid hw2
  clear hw2 hE ha hft hm hpf hl
  go_enter Tryz.func3, Tryz.ntmps3
  go_upto_region 2 with fail
  rw [← HW2.out]
  clear HW2
  have t0 := VT.out.cell (i := 0) rfl
  have t1 := VT.out.cell (i := 1) rfl
  have t2 := VT.out.cell (i := 2) rfl
  have t3 := VT.out.cell (i := 3) rfl
  go_wp2_with fail
  refine (szTileSet_any x q 1048576 _ SA.out (by omega) (by omega) HFT.out).mono ?_
  rintro e w3 ⟨l1, rfl, z1, hd⟩
  clear t0 t1 t2 t3
  replace hb := hb.trans (hd.mono hb.size)
  replace VB := Lib.hid (VB.out.kept hd)
  replace SM := Lib.hid (SM.out.kept hd)
  replace VT := Lib.hid (VT.out.kept hd)
  replace SA := Lib.hid (SA.out.kept hd)
  replace HE := Lib.hid (HE.out.kept hd)
  clear hd
  rcases z1 with rfl | ⟨y1, z1⟩
  · go_wp2
    go_ret
    exact ⟨rfl, hb⟩
  have n1 : ¬ l1 < 0 := by omega
  have b0 := VB.out.cell (i := 0) rfl
  have b1 := VB.out.cell (i := 1) rfl
  have b2 := VB.out.cell (i := 2) rfl
  go_wp2_with fail
  refine (szBoard_any b l1 _ (by omega) (by omega) hf).mono ?_
  rintro e w4 ⟨l2, rfl, z2, hd⟩
  clear b0 b1 b2
  replace hb := hb.trans (hd.mono hb.size)
  replace VB := Lib.hid (VB.out.kept hd)
  replace SM := Lib.hid (SM.out.kept hd)
  replace VT := Lib.hid (VT.out.kept hd)
  replace SA := Lib.hid (SA.out.kept hd)
  replace HE := Lib.hid (HE.out.kept hd)
  clear hd
  rcases z2 with rfl | ⟨y2, z2⟩
  · go_wp2
    go_ret
    exact ⟨rfl, hb⟩
  have n2 : ¬ l2 < 0 := by omega
  go_wp2_with fail
  refine (HZP.out l2 _ (by omega) (by omega) SM.out).mono ?_
  rintro e w5 ⟨l3, rfl, z3, hd⟩
  replace hb := hb.trans (hd.mono hb.size)
  replace VB := Lib.hid (VB.out.kept hd)
  replace SM := Lib.hid (SM.out.kept hd)
  replace VT := Lib.hid (VT.out.kept hd)
  replace SA := Lib.hid (SA.out.kept hd)
  replace HE := Lib.hid (HE.out.kept hd)
  clear hd
  rcases z3 with rfl | ⟨y3, z3⟩
  · go_wp2
    go_ret
    exact ⟨rfl, hb⟩
  have n3 : ¬ l3 < 0 := by omega
  have hsz : x.letters.size ≤ 1048576 ∧ x.values.length ≤ 1048576 ∧ x.counts.length ≤ 1048576 := by unfold Tls.sz at z1; omega
  have hsm : x.small := ⟨hsz.2.1, hsz.2.2⟩
  have hpl : ps.length + szAll Ply.sz ps ≤ 1048576 := by omega
  have hpl2 : ps.length ≤ 1048576 := by omega
  replace HIM := Lib.hid (HIM.out hsz.1 (HMS.out hpl) hpl2)
  replace HTP := Lib.hid (HTP.out hpl2)
  clear z1 z2 z3 y1 y2 y3 hf hsz hpl hpl2 HMS HZP
  go_upto_region 11 with fail
  have VX := VT
  have hd : Below w5.heap.size w5 w5.drew := (Below.refl _ _).drew
  clear VT
  replace hb := hb.trans (hd.mono hb.size)
  replace VB := Lib.hid (VB.out.kept hd)
  replace SM := Lib.hid (SM.out.kept hd)
  replace VX := Lib.hid (VX.out.kept hd)
  replace SA := Lib.hid (SA.out.kept hd)
  replace HE := Lib.hid (HE.out.kept hd)
  clear hd
  go_region_held3 (fun w' => w'.cell? ⟨w.heap.size + 1, 0, none⟩ = some (.int .i64 b.size) ∧ w'.cell? ⟨w.heap.size + 1, 1, none⟩ = some (.string b.premium) ∧ w'.cell? ⟨w.heap.size + 1, 2, none⟩ = some (.string b.cells) ∧ w'.cell? ⟨w.heap.size, 0, none⟩ = some (.string x.letters) ∧ w'.cell? ⟨w.heap.size, 1, none⟩ = some (.slice q.values.a x.values.length q.values.c) ∧ w'.cell? ⟨w.heap.size, 2, none⟩ = some (.slice q.counts.a x.counts.length q.counts.c) ∧ w'.cell? ⟨w.heap.size, 3, none⟩ = some (.int .i64 x.blanks))
    (exact ⟨VB.out.cell (i := 0) rfl, VB.out.cell (i := 1) rfl, VB.out.cell (i := 2) rfl, VX.out.cell (i := 0) rfl, VX.out.cell (i := 1) rfl, VX.out.cell (i := 2) rfl, VX.out.cell (i := 3) rfl⟩)
    (((first | (go_at_call 17; refine (toBoard_any b _).mono ?_; rintro e wq ⟨rfl, hd⟩) | (go_at_call 18; refine (HTP.out _ SM.out).mono ?_; rintro e wq ⟨gq, rfl, hmq, hd⟩; have MQ := Lib.hid hmq; clear hmq) | (go_at_call 16; refine (toTileSet_any x q _ SA.out hsm).mono ?_; rintro e wq ⟨rq, rfl, hoq, hd⟩; have SQ := Lib.hid hoq.at; clear hoq) | (go_at_call 15; refine (HSP.out _ _ _ _ SQ.out MQ.out).mono ?_; rintro e wq ⟨rfl, hd⟩)); (try replace SQ := Lib.hid (SQ.out.kept hd)); (try replace MQ := Lib.hid (MQ.out.kept hd)); (try replace S9 := Lib.hid (S9.out.kept hd)); (try replace M9 := Lib.hid (M9.out.kept hd)); (try replace VT := Lib.hid (VT.out.kept hd)); replace VB := Lib.hid (VB.out.kept hd); replace SM := Lib.hid (SM.out.kept hd); replace VX := Lib.hid (VX.out.kept hd); replace SA := Lib.hid (SA.out.kept hd); replace HE := Lib.hid (HE.out.kept hd); replace hb := hb.trans (hd.mono hb.size); clear hd))
  generalize wq = w6 at *
  have VT := VX
  clear SQ MQ HSP VX
  have t0 := VT.out.cell (i := 0) rfl
  have t1 := VT.out.cell (i := 1) rfl
  have t2 := VT.out.cell (i := 2) rfl
  have t3 := VT.out.cell (i := 3) rfl
  go_wp2_with fail
  refine (toTileSet_any x q _ SA.out hsm).mono ?_
  rintro e w7 ⟨r1, rfl, ho, hd⟩
  have S9 := Lib.hid ho.at
  clear ho t0 t1 t2 t3
  replace hb := hb.trans (hd.mono hb.size)
  replace VB := Lib.hid (VB.out.kept hd)
  replace SM := Lib.hid (SM.out.kept hd)
  replace VT := Lib.hid (VT.out.kept hd)
  replace SA := Lib.hid (SA.out.kept hd)
  replace HE := Lib.hid (HE.out.kept hd)
  clear hd
  have VX := Lib.hid (VarAt.new w7 33 [.string x.letters, .slice r1.values.a x.values.length r1.values.c, .slice r1.counts.a x.counts.length r1.counts.c, .int .i64 x.blanks])
  have hd : Below w7.heap.size w7 (w7.alloc (.cells #[.string x.letters, .slice r1.values.a x.values.length r1.values.c, .slice r1.counts.a x.counts.length r1.counts.c, .int .i64 x.blanks] 33)) := (Below.refl _ _).alloc (Nat.le_refl _) _
  go_upto_region 13 with fail
  replace hb := hb.trans (hd.mono hb.size)
  replace VB := Lib.hid (VB.out.kept hd)
  replace SM := Lib.hid (SM.out.kept hd)
  replace VT := Lib.hid (VT.out.kept hd)
  replace SA := Lib.hid (SA.out.kept hd)
  replace HE := Lib.hid (HE.out.kept hd)
  replace S9 := Lib.hid (S9.out.kept hd)
  clear hd
  generalize w7.alloc (.cells #[.string x.letters, .slice r1.values.a x.values.length r1.values.c, .slice r1.counts.a x.counts.length r1.counts.c, .int .i64 x.blanks] 33) = w8 at *
  generalize w7.heap.size = x1 at *
  go_wp2_with fail
  refine (HTP.out _ SM.out).mono ?_
  rintro e w8b ⟨g2, rfl, hm2, hd⟩
  have M9 := Lib.hid hm2
  clear hm2
  replace hb := hb.trans (hd.mono hb.size)
  replace VB := Lib.hid (VB.out.kept hd)
  replace SM := Lib.hid (SM.out.kept hd)
  replace VT := Lib.hid (VT.out.kept hd)
  replace VX := Lib.hid (VX.out.kept hd)
  replace SA := Lib.hid (SA.out.kept hd)
  replace HE := Lib.hid (HE.out.kept hd)
  replace S9 := Lib.hid (S9.out.kept hd)
  clear hd
  go_upto_region 14 with fail
  generalize w8 = w8x at *
  generalize w8b = w8 at *
  have hd : Below w8.heap.size w8 w8.drew := (Below.refl _ _).drew
  replace hb := hb.trans (hd.mono hb.size)
  replace VB := Lib.hid (VB.out.kept hd)
  replace SM := Lib.hid (SM.out.kept hd)
  replace VT := Lib.hid (VT.out.kept hd)
  replace VX := Lib.hid (VX.out.kept hd)
  replace SA := Lib.hid (SA.out.kept hd)
  replace HE := Lib.hid (HE.out.kept hd)
  replace S9 := Lib.hid (S9.out.kept hd)
  replace M9 := Lib.hid (M9.out.kept hd)
  clear hd
  go_region_held3 (fun w' => w'.cell? ⟨w.heap.size + 1, 0, none⟩ = some (.int .i64 b.size) ∧ w'.cell? ⟨w.heap.size + 1, 1, none⟩ = some (.string b.premium) ∧ w'.cell? ⟨w.heap.size + 1, 2, none⟩ = some (.string b.cells) ∧ w'.cell? ⟨x1, 0, none⟩ = some (.string x.letters) ∧ w'.cell? ⟨x1, 1, none⟩ = some (.slice r1.values.a x.values.length r1.values.c) ∧ w'.cell? ⟨x1, 2, none⟩ = some (.slice r1.counts.a x.counts.length r1.counts.c) ∧ w'.cell? ⟨x1, 3, none⟩ = some (.int .i64 x.blanks))
    (exact ⟨VB.out.cell (i := 0) rfl, VB.out.cell (i := 1) rfl, VB.out.cell (i := 2) rfl, VX.out.cell (i := 0) rfl, VX.out.cell (i := 1) rfl, VX.out.cell (i := 2) rfl, VX.out.cell (i := 3) rfl⟩)
    (((first | (go_at_call 17; refine (toBoard_any b _).mono ?_; rintro e wq ⟨rfl, hd⟩) | (go_at_call 18; refine (HTP.out _ SM.out).mono ?_; rintro e wq ⟨gq, rfl, hmq, hd⟩; have MQ := Lib.hid hmq; clear hmq) | (go_at_call 16; refine (toTileSet_any x q _ SA.out hsm).mono ?_; rintro e wq ⟨rq, rfl, hoq, hd⟩; have SQ := Lib.hid hoq.at; clear hoq) | (go_at_call 19; refine (HIM.out _ _ _ _ S9.out M9.out HE.out).mono ?_; rintro e wq ⟨rfl, hd⟩)); (try replace SQ := Lib.hid (SQ.out.kept hd)); (try replace MQ := Lib.hid (MQ.out.kept hd)); (try replace S9 := Lib.hid (S9.out.kept hd)); (try replace M9 := Lib.hid (M9.out.kept hd)); (try replace VT := Lib.hid (VT.out.kept hd)); replace VB := Lib.hid (VB.out.kept hd); replace SM := Lib.hid (SM.out.kept hd); replace VX := Lib.hid (VX.out.kept hd); replace SA := Lib.hid (SA.out.kept hd); replace HE := Lib.hid (HE.out.kept hd); replace hb := hb.trans (hd.mono hb.size); clear hd))
  generalize wq = w9 at *
  have hk0 : (r0 != r0) = false := by simp
  have hk1 : (rs != rs) = false := by simp
  have hk2 : (rc != rc) = false := by simp
  clear VB HE HIM
  go_upto_region 17 with fail
  clear hk0 hk1 hk2
  have hd : Below w9.heap.size w9 w9.drew := (Below.refl _ _).drew
  replace hb := hb.trans (hd.mono hb.size)
  replace VT := Lib.hid (VT.out.kept hd)
  replace VX := Lib.hid (VX.out.kept hd)
  replace SA := Lib.hid (SA.out.kept hd)
  replace S9 := Lib.hid (S9.out.kept hd)
  replace SM := Lib.hid (SM.out.kept hd)
  replace M9 := Lib.hid (M9.out.kept hd)
  clear hd
  go_region_held3 (fun w' => w'.cell? ⟨w.heap.size, 0, none⟩ = some (.string x.letters) ∧ w'.cell? ⟨w.heap.size, 1, none⟩ = some (.slice q.values.a x.values.length q.values.c) ∧ w'.cell? ⟨w.heap.size, 2, none⟩ = some (.slice q.counts.a x.counts.length q.counts.c) ∧ w'.cell? ⟨w.heap.size, 3, none⟩ = some (.int .i64 x.blanks) ∧ w'.cell? ⟨x1, 0, none⟩ = some (.string x.letters) ∧ w'.cell? ⟨x1, 1, none⟩ = some (.slice r1.values.a x.values.length r1.values.c) ∧ w'.cell? ⟨x1, 2, none⟩ = some (.slice r1.counts.a x.counts.length r1.counts.c) ∧ w'.cell? ⟨x1, 3, none⟩ = some (.int .i64 x.blanks))
    (exact ⟨VT.out.cell (i := 0) rfl, VT.out.cell (i := 1) rfl, VT.out.cell (i := 2) rfl, VT.out.cell (i := 3) rfl, VX.out.cell (i := 0) rfl, VX.out.cell (i := 1) rfl, VX.out.cell (i := 2) rfl, VX.out.cell (i := 3) rfl⟩)
    (((first
      | (go_at_call 16; refine (toTileSet_any x q _ SA.out hsm).mono ?_; rintro e wq ⟨rq, rfl, hoq, hd⟩; have SQ := Lib.hid hoq.at; clear hoq)
      | (go_at_call 20; refine (eqTileSet_any x r1 _ _ S9.out SQ.out HFT.out).mono ?_; rintro e wq ⟨rfl, hd⟩)); replace VT := Lib.hid (VT.out.kept hd); replace VX := Lib.hid (VX.out.kept hd); replace SA := Lib.hid (SA.out.kept hd); replace S9 := Lib.hid (S9.out.kept hd); replace SM := Lib.hid (SM.out.kept hd); replace M9 := Lib.hid (M9.out.kept hd); (try replace SQ := Lib.hid (SQ.out.kept hd)); replace hb := hb.trans (hd.mono hb.size); clear hd))
  generalize wq = w10 at *
  clear SA S9 SQ VT VX
  go_wp2_with fail
  refine (HTP.out _ SM.out).mono ?_
  rintro e w11 ⟨g3, rfl, hm3, hd⟩
  have M3 := Lib.hid hm3
  clear hm3
  replace hb := hb.trans (hd.mono hb.size)
  replace SM := Lib.hid (SM.out.kept hd)
  replace M9 := Lib.hid (M9.out.kept hd)
  clear hd
  go_wp2_with fail
  refine (HEP.out _ _ _ _ _ M9.out M3.out).mono ?_
  rintro e w12 ⟨rfl, hd⟩
  replace hb := hb.trans (hd.mono hb.size)
  clear hd
  go_wp2
  go_ret
  exact ⟨rfl, hb⟩
open Go.Joins Go.Deep Go.Lib in
theorem cenvBest_of_laid {W : World} (h : laidMetH Tryz.prog Rows.fnExactBestPlayRow.laid W) : CEnv W := by
  rw [MakeChecks.laidMetH_plain _ _ _ (by kernel_rfl)] at h
  exact cenv_of_met h (List.mem_cons_self) (List.mem_cons_of_mem _ (List.mem_cons_self)) (List.mem_cons_of_mem _ (List.mem_cons_of_mem _ (List.mem_cons_self)))
end Go.Proofs.YtofcampipllegaaGreatDoor
