/- Contracts: the endgame of a game: the program and the reference. Go's tables of unicode and unicode/utf8 hold what is laid (CEnv), internal/bytealg's MaxLen a number (EnvL); texts fit. -/
import Derived.Test.YtofcampipllegaaGreatDoorGfP
namespace Go.Proofs.YtofcampipllegaaGreatDoor
open Go.ChangeShapes Go.WideShapes Go.ChangeAt Go.RowKit Go.Sort

/-- the code of a game in which a turn is to be made -/
def Gam.code (x : Gam) : Int := if x.ok = false then 1 else if x.over = true then 10 else 0
theorem Gam.code1 {x : Gam} (h : x.ok = false) : x.code = 1 := by unfold Gam.code; rw [if_pos h]
theorem Gam.code2 {x : Gam} (h : x.ok = true) (h1 : x.over = true) : x.code = 10 := by unfold Gam.code; rw [if_neg (by rw [h]; decide), if_pos h1]
theorem Gam.code3 {x : Gam} (h : x.ok = true) (h1 : x.over = false) : x.code = 0 := by unfold Gam.code; rw [if_neg (by rw [h]; decide), if_neg (by rw [h1]; decide)]
theorem ret_one {w w' : World} {c a : Int} {e : Ending} (h : c = a) (he : e = .returned (.int .i64 a)) (hb : Below w.heap.size w w') : e = .returned (.int .i64 c) ∧ Below w.heap.size w w' := by
 rw [h]
 exact ⟨he, hb⟩
set_option maxRecDepth 100000 in
set_option maxHeartbeats 2000000 in
theorem l27Code_any (x : Gam) (p : GaA) (g : Nat) (w : World) (hg : GAt w g x p) (hf : x.fit) :
  Calls Tryz.prog 72 #[.pointer (some ⟨g, 0, none⟩)] w fun e w' => e = .returned (.int .i64 x.code) ∧ Below w.heap.size w w' := by
 have HOK : Hid (∀ W, GAt W g x p → Calls Tryz.prog 81 #[.pointer (some ⟨g, 0, none⟩)] W fun e w' => e = .returned (.bool x.ok) ∧ Below W.heap.size W w') := Lib.hid (fun W h => l18Ok_any x p g W h hf)
 have HG := Lib.hid hg
 clear hg hf
 go_enter Tryz.func72, Tryz.ntmps72
 go_wp2_with fail
 refine (HOK.out _ HG.out).mono ?_
 rintro e w2 ⟨rfl, hb⟩
 replace HG := Lib.hid (HG.out.kept hb)
 clear HOK
 cases hk : x.ok with
 | false =>
  have HW := Lib.hid (Gam.code1 hk)
  clear hk
  go_wp2
  go_ret
  exact ret_one HW.out rfl hb
 | true =>
  have HK := Lib.hid hk
  clear hk
  have c29 := HG.out.cell (i := 29) rfl
  cases ho : x.over with
  | true =>
   have HW := Lib.hid (Gam.code2 HK.out ho)
   rw [ho] at c29
   clear ho
   go_wp2
   go_ret
   exact ret_one HW.out rfl hb
  | false =>
   have HW := Lib.hid (Gam.code3 HK.out ho)
   rw [ho] at c29
   clear ho
   go_wp2
   go_ret
   exact ret_one HW.out rfl hb
set_option maxRecDepth 100000 in
set_option maxHeartbeats 2000000 in
theorem runCode_any (x : Gam) (p : GaA) (w : World) (ha : x.At p w) (hf : x.fit) (htz : x.setup.tiles.letters.size ≤ 1048576) (hwz : x.last.play.word.size ≤ 1048576) (hE : CEnv w) (hL : EnvL w) :
  Calls Tryz.prog 77 #[.agg (gcells x p).toArray] w fun e w' => e = .returned (.int .i64 x.code) ∧ Below w.heap.size w w' := by
 have HG := Lib.hid (GAt.new w x p 65 ha)
 have hb : Below w.heap.size w (w.alloc (.cells (gcells x p).toArray 65)) := (Below.refl _ _).alloc (Nat.le_refl _) _
 have HE := Lib.hid (hE.kept hb)
 have HL := Lib.hid (hL.kept hb)
 have HSZ := Lib.hid (size_game x p)
 have HRA : Hid ((w.alloc (.cells (gcells x p).toArray 65)).rangeAt w.heap.size 0 (gcells x p)) := Lib.hid HG.out.cells
 have HVG : Hid (∀ W, x.At p W → CEnv W → EnvL W → Calls Tryz.prog 83 #[.agg (gcells x p).toArray] W fun e w' => e = .returned (.bool x.ok) ∧ Below W.heap.size W w') := Lib.hid (fun W h h2 h3 => implValidGame_any x p W h hf htz hwz h2 h3)
 clear ha hf htz hwz hE hL
 obtain ⟨cs, hcs⟩ : ∃ cs, cs = gcells x p := ⟨_, rfl⟩
 rw [← hcs]
 rw [← hcs] at HG hb HE HL HSZ HRA HVG
 clear hcs
 go_enter Tryz.func77, Tryz.ntmps77
 go_upto_region 1 with fail
 generalize w.alloc (.cells cs.toArray 65) = w1 at *
 have rA := HRA.out
 clear HRA
 refine wp_region_list ?_
 refine wpList_load_mid rfl 65 _ rfl w.heap.size 0 rfl cs _ rA Tryz.underlying65 rfl HSZ.out ?_
 clear rA
 go_wp2_with fail
 refine (HVG.out _ HG.out.at_ HE.out HL.out).mono ?_
 rintro e w2 ⟨rfl, hd⟩
 replace hb := hb.trans (hd.mono hb.size)
 replace HG := Lib.hid (HG.out.kept hd)
 clear hd
 clear HVG HE HL HSZ
 cases hk : x.ok with
 | false =>
  have HW := Lib.hid (Gam.code1 hk)
  clear hk
  go_wp2
  go_ret
  exact ret_one HW.out rfl hb
 | true =>
  have HK := Lib.hid hk
  clear hk
  have c29 := HG.out.cell (i := 29) rfl
  cases ho : x.over with
  | true =>
   have HW := Lib.hid (Gam.code2 HK.out ho)
   rw [ho] at c29
   clear ho
   go_wp2
   go_ret
   exact ret_one HW.out rfl hb
  | false =>
   have HW := Lib.hid (Gam.code3 HK.out ho)
   rw [ho] at c29
   clear ho
   go_wp2
   go_ret
   exact ret_one HW.out rfl hb
set_option maxRecDepth 100000 in
set_option maxHeartbeats 2000000 in
theorem l22Ok_any (E : Edg) (g : Nat) (w : World) (hv : VarAt w g 55 (ecells E)) (hf : E.board.fit) (hb1 : E.board.ok = true) (hm : rackOk E.mine.data.toList = true) (ht : rackOk E.theirs.data.toList = true) (hm2 : E.mine.size ≤ 9223372036854775807) (ht2 : E.theirs.size ≤ 9223372036854775807) :
  Calls Tryz.prog 73 #[.pointer (some ⟨g, 0, none⟩)] w fun e w' => e = .returned (.bool (decide (E.mine.size ≠ 0) && decide (E.theirs.size ≠ 0))) ∧ Below w.heap.size w w' := by
 have V := Lib.hid hv
 have HB : Hid (∀ W, VarAt W g 55 (ecells E) → Calls Tryz.prog 56 #[.pointer (some ⟨g, 0, none⟩)] W fun e w' => e = .returned (.bool true) ∧ Below W.heap.size W w') := Lib.hid (fun W h => (l11Ok_any E.board g 0 W ⟨h.cell (i := 0) rfl, h.cell (i := 1) rfl, h.cell (i := 2) rfl⟩ hf).mono (fun e w' ⟨h1, h2⟩ => ⟨by rw [h1, hb1], h2.below _⟩))
 have HM : Hid (∀ W, Calls Tryz.prog 130 #[.string E.mine] W fun e w' => e = .returned (.bool true) ∧ Below W.heap.size W w') := Lib.hid (fun W => (l03Rack_any E.mine W hm2).mono (fun e w' ⟨h1, h2⟩ => ⟨by rw [h1, hm], h2.below _⟩))
 have HT : Hid (∀ W, Calls Tryz.prog 130 #[.string E.theirs] W fun e w' => e = .returned (.bool true) ∧ Below W.heap.size W w') := Lib.hid (fun W => (l03Rack_any E.theirs W ht2).mono (fun e w' ⟨h1, h2⟩ => ⟨by rw [h1, ht], h2.below _⟩))
 clear hv hf hb1 hm ht hm2 ht2
 have hb : Below w.heap.size w w := Below.refl _ _
 go_enter Tryz.func73, Tryz.ntmps73
 go_wp2_with fail
 refine (HB.out _ V.out).mono ?_
 rintro e w2 ⟨rfl, hd⟩
 replace hb := hb.trans (hd.mono hb.size)
 replace V := Lib.hid (V.out.kept hd)
 clear hd
 have c3 := V.out.cell (i := 3) (v := .string E.mine) rfl
 go_wp2_with fail
 refine (HM.out _).mono ?_
 rintro e w3 ⟨rfl, hd⟩
 clear c3
 replace hb := hb.trans (hd.mono hb.size)
 replace V := Lib.hid (V.out.kept hd)
 clear hd
 have c4 := V.out.cell (i := 4) (v := .string E.theirs) rfl
 go_wp2_with fail
 refine (HT.out _).mono ?_
 rintro e w4 ⟨rfl, hd⟩
 clear c4
 replace hb := hb.trans (hd.mono hb.size)
 replace V := Lib.hid (V.out.kept hd)
 clear hd
 have c3 := V.out.cell (i := 3) (v := .string E.mine) rfl
 have c4 := V.out.cell (i := 4) (v := .string E.theirs) rfl
 clear HB HM HT V
 by_cases h1 : E.mine.size = 0
 ·have e1 := text_nil h1
  have HQ : Hid ((decide (E.mine.size ≠ 0) && decide (E.theirs.size ≠ 0)) = false) := Lib.hid (by simp [h1])
  clear h1
  go_wp2
  go_ret
  exact ⟨by rw [HQ.out]; rfl, hb⟩
 ·obtain ⟨e1, f1⟩ := text_some h1
  by_cases h2 : E.theirs.size = 0
  ·have e2 := text_nil h2
   have HQ : Hid ((decide (E.mine.size ≠ 0) && decide (E.theirs.size ≠ 0)) = false) := Lib.hid (by simp [h2])
   clear h1 h2
   go_wp2
   go_ret
   exact ⟨by rw [HQ.out]; rfl, hb⟩
  ·obtain ⟨e2, f2⟩ := text_some h2
   have HQ : Hid ((decide (E.mine.size ≠ 0) && decide (E.theirs.size ≠ 0)) = true) := Lib.hid (by simp [h1, h2])
   clear h1 h2
   go_wp2
   go_ret
   exact ⟨by rw [HQ.out]; rfl, hb⟩
end Go.Proofs.YtofcampipllegaaGreatDoor
