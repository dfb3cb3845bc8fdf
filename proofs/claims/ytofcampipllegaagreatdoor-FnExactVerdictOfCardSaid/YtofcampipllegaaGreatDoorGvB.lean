/- Contracts: the verdict about the last play of a game: the reference. Texts fit. -/
import Derived.Test.YtofcampipllegaaGreatDoorGvP
namespace Go.Proofs.YtofcampipllegaaGreatDoor
open Go.ChangeShapes Go.WideShapes Go.ChangeAt Go.RowKit Go.Sort

theorem vne_late {wq wz : World} {X : Nat} {t e : TypeId} {cs L : List Value} {sz n c g : Nat} (h : VarAt wq X t cs) (ho : wz.ownsRow wq.heap.size e sz (.slice (some ⟨g, 0, none⟩) n c) n L) : g ≠ X := by
 have h1 := h.lt
 have h2 := (ho.lt g rfl).1
 omega
theorem vne_early {W : World} {e : TypeId} {L : List Value} {sz n c g b : Nat} (ho : W.ownsRow b e sz (.slice (some ⟨g, 0, none⟩) n c) n L) : g ≠ W.heap.size := by
 have h2 := (ho.lt g rfl).2
 omega
theorem row_ne {W wz : World} {e e2 : TypeId} {L L2 : List Value} {sz n c g b sz2 n2 c2 g2 : Nat} (o1 : W.ownsRow b e sz (.slice (some ⟨g, 0, none⟩) n c) n L) (o2 : wz.ownsRow W.heap.size e2 sz2 (.slice (some ⟨g2, 0, none⟩) n2 c2) n2 L2) : g ≠ g2 := by
 have h1 := (o1.lt g rfl).2
 have h2 := (o2.lt g2 rfl).1
 omega
theorem offA_ne {a b : Nat} (h : a ≠ b) : offA (some ⟨a, 0, none⟩) (some ⟨b, 0, none⟩) := fun g h1 h2 => by
 cases h1
 exact h (Option.some.inj h2).symm
theorem cell_alloc_drew {w : World} {p : Addr} {v : Value} (h : w.drew.cell? p = some v) (o : Obj) : ((w.alloc o).drew).cell? p = some v := cell_alloc (w := w.drew) h o
theorem far4 {w : World} {b o X : Nat} {v a0 a1 a2 a3 : Value} (h : w.cell? ⟨b, o, none⟩ = some v) (hne : b ≠ X) : ((((w.setCell ⟨X, 0, none⟩ a0).setCell ⟨X, 1, none⟩ a1).setCell ⟨X, 2, none⟩ a2).setCell ⟨X, 3, none⟩ a3).cell? ⟨b, o, none⟩ = some v :=
 have hx : X ≠ b := fun e => hne e.symm
 (World.cell?_setCell_far _ ⟨X, 3, none⟩ ⟨b, o, none⟩ a3 hx).trans ((World.cell?_setCell_far _ ⟨X, 2, none⟩ ⟨b, o, none⟩ a2 hx).trans ((World.cell?_setCell_far _ ⟨X, 1, none⟩ ⟨b, o, none⟩ a1 hx).trans ((World.cell?_setCell_far _ ⟨X, 0, none⟩ ⟨b, o, none⟩ a0 hx).trans h)))
/-- a verdict of the call's own lies in a block of its own -/
def VMade (w3 : World) (wl wr : List ByteArray) (s : Value) (wx : World) : Prop :=
 ∃ (X g1 c1 g2 c2 : Nat), s = .pointer (some ⟨X, 0, none⟩) ∧ VarAt wx X 81 [.slice (some ⟨g1, 0, none⟩) wl.length c1, .slice (some ⟨g2, 0, none⟩) wr.length c2, .bool false, .int .i64 0] ∧ wx.ownsRow w3.heap.size 9 1 (.slice (some ⟨g1, 0, none⟩) wl.length c1) wl.length (wl.flatMap Tx.enc) ∧ wx.ownsRow w3.heap.size 9 1 (.slice (some ⟨g2, 0, none⟩) wr.length c2) wr.length (wr.flatMap Tx.enc) ∧ g1 ≠ g2 ∧ g1 ≠ X ∧ g2 ≠ X ∧ w3.heap.size ≤ X ∧ Below w3.heap.size w3 wx
theorem vdt_early {w3 wq : World} {wl wr : List ByteArray} {X g1 c1 g2 c2 b1 b2 : Nat} {cs : List Value} (hb : Below w3.heap.size w3 wq) (V : VarAt wq X 81 cs) (hl : cs.length = 4) (hX : w3.heap.size ≤ X) (o1 : wq.ownsRow b1 9 1 (.slice (some ⟨g1, 0, none⟩) wl.length c1) wl.length (wl.flatMap Tx.enc)) (o2 : wq.ownsRow b2 9 1 (.slice (some ⟨g2, 0, none⟩) wr.length c2) wr.length (wr.flatMap Tx.enc)) (h1 : w3.heap.size ≤ b1) (h2 : w3.heap.size ≤ b2) (x1 : g1 ≠ X) (x2 : g2 ≠ X) (a : g1 ≠ g2) :
  VMade w3 wl wr (.pointer (some ⟨X, 0, none⟩)) ((((wq.setCell ⟨X, 0, none⟩ (.slice (some ⟨g1, 0, none⟩) wl.length c1)).setCell ⟨X, 1, none⟩ (.slice (some ⟨g2, 0, none⟩) wr.length c2)).setCell ⟨X, 2, none⟩ (.bool false)).setCell ⟨X, 3, none⟩ (.int .i64 0)) := by
 show VMade w3 wl wr (.pointer (some ⟨X, 0, none⟩)) (wq.setCells X 0 [.slice (some ⟨g1, 0, none⟩) wl.length c1, .slice (some ⟨g2, 0, none⟩) wr.length c2, .bool false, .int .i64 0])
 obtain ⟨o, k⟩ := V.put [.slice (some ⟨g1, 0, none⟩) wl.length c1, .slice (some ⟨g2, 0, none⟩) wr.length c2, .bool false, .int .i64 0] (by rw [hl]; rfl)
 have hw2 : Wrote w3.heap.size [some ⟨X, 0, none⟩] wq (wq.setCells X 0 [.slice (some ⟨g1, 0, none⟩) wl.length c1, .slice (some ⟨g2, 0, none⟩) wr.length c2, .bool false, .int .i64 0]) := Wrote.of_grown (a := some ⟨X, 0, none⟩) (n := 0) (c := 0) k hb.size (fun g h => by cases h; exact hX)
 exact ⟨X, g1, c1, g2, c2, rfl, o, own_mono (hw2.own (fun s hs => by rw [List.mem_singleton.1 hs]; exact offA_ne x1.symm) o1) h1, own_mono (hw2.own (fun s hs => by rw [List.mem_singleton.1 hs]; exact offA_ne x2.symm) o2) h2, a, x1, x2, hX, hb.trans hw2.below⟩
theorem vdt_late {w3 wq : World} {wl wr : List ByteArray} {g1 c1 g2 c2 b1 b2 : Nat} (hb : Below w3.heap.size w3 wq) (o1 : wq.ownsRow b1 9 1 (.slice (some ⟨g1, 0, none⟩) wl.length c1) wl.length (wl.flatMap Tx.enc)) (o2 : wq.ownsRow b2 9 1 (.slice (some ⟨g2, 0, none⟩) wr.length c2) wr.length (wr.flatMap Tx.enc)) (h1 : w3.heap.size ≤ b1) (h2 : w3.heap.size ≤ b2) (a : g1 ≠ g2) :
  VMade w3 wl wr (.pointer (some ⟨wq.heap.size, 0, none⟩)) (wq.alloc (.cells #[.slice (some ⟨g1, 0, none⟩) wl.length c1, .slice (some ⟨g2, 0, none⟩) wr.length c2, .bool false, .int .i64 0] 81)) := by
 have hd : Below wq.heap.size wq (wq.alloc (.cells #[.slice (some ⟨g1, 0, none⟩) wl.length c1, .slice (some ⟨g2, 0, none⟩) wr.length c2, .bool false, .int .i64 0] 81)) := (Below.refl _ _).alloc (Nat.le_refl _) _
 exact ⟨wq.heap.size, g1, c1, g2, c2, rfl, VarAt.new wq 81 [.slice (some ⟨g1, 0, none⟩) wl.length c1, .slice (some ⟨g2, 0, none⟩) wr.length c2, .bool false, .int .i64 0], own_mono (own_below o1 hd) h1, own_mono (own_below o2 hd) h2, a, vne_early o1, vne_early o2, hb.size, hb.trans (hd.mono hb.size)⟩
def VerPost (x : Gam) (w : World) (e : Ending) (w' : World) : Prop :=
 ∃ q : VdA, e = .returned (.agg (vcells x.verdict q).toArray) ∧ x.verdict.Z q w.heap.size w' ∧ x.verdict.Off q ∧ Below w.heap.size w w'
theorem ver_up {x : Gam} {w w0 w' : World} {e : Ending} (hd : Below w0.heap.size w0 w) (h : VerPost x w e w') : VerPost x w0 e w' := by
 obtain ⟨q, h1, h2, h3, h4⟩ := h
 exact ⟨q, h1, ⟨h2.words.mono hd.size, h2.wrong.mono hd.size⟩, h3, hd.trans (h4.mono hd.size)⟩
theorem ver_post {x : Gam} {w w' : World} {wl wr : List ByteArray} {u : Bool} {pt : Int} {g1 c1 g2 c2 : Nat} {e : Ending} (h : x.verdict = ⟨wl, wr, u, pt⟩) (he : e = .returned (.agg (vcells ⟨wl, wr, u, pt⟩ ⟨⟨some ⟨g1, 0, none⟩, c1⟩, ⟨some ⟨g2, 0, none⟩, c2⟩⟩).toArray))
  (o1 : w'.ownsRow w.heap.size 9 1 (.slice (some ⟨g1, 0, none⟩) wl.length c1) wl.length (wl.flatMap Tx.enc)) (o2 : w'.ownsRow w.heap.size 9 1 (.slice (some ⟨g2, 0, none⟩) wr.length c2) wr.length (wr.flatMap Tx.enc)) (a : g1 ≠ g2) (hb : Below w.heap.size w w') : VerPost x w e w' := by
 unfold VerPost
 rw [h]
 exact ⟨⟨⟨some ⟨g1, 0, none⟩, c1⟩, ⟨some ⟨g2, 0, none⟩, c2⟩⟩, he, ⟨.inr o1, .inr o2⟩, (offA_ne a).eff _ _, hb⟩
set_option maxRecDepth 100000 in
set_option maxHeartbeats 8000000 in
theorem l19Verdict_any (x : Gam) (p : GaA) (g : Nat) (w : World) (hg : GAt w g x p) (hk : x.ok = true) (hm : x.may = true) :
  Calls Tryz.prog 92 #[.pointer (some ⟨g, 0, none⟩)] w (VerPost x w) := by
 obtain ⟨n, hpg⟩ := Gam.play_good hk hm
 have hfi := Gam.fine hk
 have hb : Below w.heap.size w (w.alloc (.cells #[.slice none 0 0, .slice none 0 0, .bool false, .int .i64 0] 81)) := (Below.refl _ _).alloc (Nat.le_refl _) _
 have hglt := hg.lt
 have HGW := Lib.hid hg
 have HG := Lib.hid (hg.kept hb)
 have VR : Hid (VarAt (w.alloc (.cells #[.slice none 0 0, .slice none 0 0, .bool false, .int .i64 0] 81)) w.heap.size 81 vzero) := Lib.hid (VarAt.new w 81 vzero)
 have HBD : Hid (∀ W, GAt W g x p → Calls Tryz.prog 156 #[.pointer (some ⟨g, 0, none⟩), .string x.last.before] W fun e w' => e = .returned (.agg #[.int .i64 x.before.size, .string x.before.premium, .string x.before.cells]) ∧ Below W.heap.size W w') := Lib.hid (fun W h => l18Board_any x p g x.last.before W h)
 have HWD : Hid (∀ X W, BAt W X 0 x.before → Calls Tryz.prog 157 #[.pointer (some ⟨X, 0, none⟩), .agg #[.int .i64 x.last.play.row, .int .i64 x.last.play.col, .bool x.last.play.down, .string x.last.play.word]] W (TextsPost W x.wordsL)) := Lib.hid (fun X W h => l12Words_any x.before x.last.play n X 0 W h hpg)
 have HWG : Hid (∀ X W, BAt W X 0 x.before → GAt W g x p → Calls Tryz.prog 158 #[.pointer (some ⟨X, 0, none⟩), .pointer (some ⟨g, 4, none⟩), .agg #[.int .i64 x.last.play.row, .int .i64 x.last.play.col, .bool x.last.play.down, .string x.last.play.word]] W (TextsPost W x.wrongW)) := Lib.hid (fun X W h h2 => l12Wrong_any x.before x.last.play n x.setup.lexicon p.setup.lexicon.a p.setup.lexicon.c X 0 g 4 W h (h2.cell (i := 4) rfl) h2.at_.1.2 hpg hfi.lexicon)
 have hwl : x.wordsL.length ≤ 13 := words_len hpg
 have HVD : Hid (x.verdict = ⟨x.wordsL, x.wrongW, decide (0 < x.wrongW.length), if 0 < x.wrongW.length then wrap64 (- x.last.score) else if x.setup.rule = 3 then 5 * x.wordsL.length else 0⟩) := Lib.hid rfl
 clear hpg hfi hk hm hg
 generalize x.wordsL = wl at *
 generalize x.wrongW = wr at *
 go_enter Tryz.func92, Tryz.ntmps92
 go_upto_region 1 with fail
 generalize w.alloc (.cells #[.slice none 0 0, .slice none 0 0, .bool false, .int .i64 0] 81) = w1 at *
 have c25 := HG.out.cell (i := 25) rfl
 go_wp2_with fail
 refine (HBD.out _ HG.out).mono ?_
 rintro e w2 ⟨rfl, hd⟩
 clear c25
 have hz1 := Nat.le_trans hb.size hd.size
 have hvz := VR.out.lt
 replace hb := hb.trans (hd.mono hb.size)
 replace HG := Lib.hid (HG.out.kept hd)
 replace VR := Lib.hid (VR.out.kept hd)
 clear hd
 have HX := Lib.hid (BAt.new w2 x.before 35)
 have hd : Below w2.heap.size w2 (w2.alloc (.cells #[.int .i64 x.before.size, .string x.before.premium, .string x.before.cells] 35)) := (Below.refl _ _).alloc (Nat.le_refl _) _
 go_upto_region 2 with fail
 change Code.wp _ _ _ _ (w2.alloc (.cells #[.int .i64 x.before.size, .string x.before.premium, .string x.before.cells] 35))
 replace hb := hb.trans (hd.mono hb.size)
 replace HG := Lib.hid (HG.out.kept hd)
 replace VR := Lib.hid (VR.out.kept hd)
 clear hd
 generalize w2.alloc (.cells #[.int .i64 x.before.size, .string x.before.premium, .string x.before.cells] 35) = w3 at *
 generalize w2.heap.size = XB at *
 have hlt3 := VR.out.lt
 go_cut [4] (fun s4 wx => VMade w3 wl wr s4 wx)
 case first =>
  have hk2 : Below w3.heap.size w3 w3.drew := (Below.refl _ _).drew
  replace HG := Lib.hid (HG.out.kept hk2)
  replace HX := Lib.hid (HX.out.kept hk2)
  have c21 := HG.out.cell (i := 21) rfl
  have c22 := HG.out.cell (i := 22) rfl
  have c23 := HG.out.cell (i := 23) rfl
  have c24 := HG.out.cell (i := 24) rfl
  go_region_held3 (fun w' => w'.cell? ⟨g, 21, none⟩ = some (.int .i64 x.last.play.row) ∧ w'.cell? ⟨g, 22, none⟩ = some (.int .i64 x.last.play.col) ∧ w'.cell? ⟨g, 23, none⟩ = some (.bool x.last.play.down) ∧ w'.cell? ⟨g, 24, none⟩ = some (.string x.last.play.word))
   (first | with_reducible exact ⟨c21, c22, c23, c24⟩ | with_reducible exact ⟨cell_alloc_drew c21 _, cell_alloc_drew c22 _, cell_alloc_drew c23 _, cell_alloc_drew c24 _⟩ | with_reducible exact ⟨cell_alloc c21 _, cell_alloc c22 _, cell_alloc c23 _, cell_alloc c24 _⟩ | with_reducible exact ⟨far4 c21 (by omega), far4 c22 (by omega), far4 c23 (by omega), far4 c24 (by omega)⟩)
   (first
    | (go_at_call 157; (try ((first | with_reducible refine calls_var_drew ?_ | with_reducible refine calls_var ?_); intro wz hxz hvz; have hgz := hk2.size; (try have x1 := vne_early Z1.out); (try have x2 := vne_early Z2.out); have VN := Lib.hid hvz; clear hvz; have n0 := VN.out.cell (i := 0) rfl; have z0 := VN.out.free 0; have n1 := VN.out.cell (i := 1) rfl; have z1 := VN.out.free 1; have n2 := VN.out.cell (i := 2) rfl; have z2 := VN.out.free 2; have n3 := VN.out.cell (i := 3) rfl; have z3 := VN.out.free 3; (try replace Z2 := Lib.hid (own_below Z2.out hxz)); replace c21 := cell_kept c21 hxz; replace c22 := cell_kept c22 hxz; replace c23 := cell_kept c23 hxz; replace c24 := cell_kept c24 hxz; replace HG := Lib.hid (HG.out.kept hxz); replace HX := Lib.hid (HX.out.kept hxz); replace hk2 := hk2.trans (hxz.mono hk2.size); clear hxz)); refine (HWD.out _ _ HX.out).mono ?_; rintro e wq ⟨g1, cap1, rfl, ho1, hd⟩; have hB1 := hk2.size; (try have x1 := vne_late VN.out ho1); (try have a12 := (row_ne Z2.out ho1).symm); have Z1 := Lib.hid ho1; clear ho1; (try (replace VN := Lib.hid (VN.out.kept hd); clear n0 z0 n1 z1 n2 z2 n3 z3; have n0 := VN.out.cell (i := 0) rfl; have z0 := VN.out.free 0; have n1 := VN.out.cell (i := 1) rfl; have z1 := VN.out.free 1; have n2 := VN.out.cell (i := 2) rfl; have z2 := VN.out.free 2; have n3 := VN.out.cell (i := 3) rfl; have z3 := VN.out.free 3)); (try replace Z2 := Lib.hid (own_below Z2.out hd)); replace c21 := cell_kept c21 hd; replace c22 := cell_kept c22 hd; replace c23 := cell_kept c23 hd; replace c24 := cell_kept c24 hd; replace HG := Lib.hid (HG.out.kept hd); replace HX := Lib.hid (HX.out.kept hd); replace hk2 := hk2.trans (hd.mono hk2.size); clear hd)
    | (go_at_call 158; (try ((first | with_reducible refine calls_var_drew ?_ | with_reducible refine calls_var ?_); intro wz hxz hvz; have hgz := hk2.size; (try have x1 := vne_early Z1.out); (try have x2 := vne_early Z2.out); have VN := Lib.hid hvz; clear hvz; have n0 := VN.out.cell (i := 0) rfl; have z0 := VN.out.free 0; have n1 := VN.out.cell (i := 1) rfl; have z1 := VN.out.free 1; have n2 := VN.out.cell (i := 2) rfl; have z2 := VN.out.free 2; have n3 := VN.out.cell (i := 3) rfl; have z3 := VN.out.free 3; (try replace Z1 := Lib.hid (own_below Z1.out hxz)); replace c21 := cell_kept c21 hxz; replace c22 := cell_kept c22 hxz; replace c23 := cell_kept c23 hxz; replace c24 := cell_kept c24 hxz; replace HG := Lib.hid (HG.out.kept hxz); replace HX := Lib.hid (HX.out.kept hxz); replace hk2 := hk2.trans (hxz.mono hk2.size); clear hxz)); refine (HWG.out _ _ HX.out HG.out).mono ?_; rintro e wq ⟨g2, cap2, rfl, ho2, hd⟩; have hB2 := hk2.size; (try have x2 := vne_late VN.out ho2); (try have a12 := row_ne Z1.out ho2); have Z2 := Lib.hid ho2; clear ho2; (try (replace VN := Lib.hid (VN.out.kept hd); clear n0 z0 n1 z1 n2 z2 n3 z3; have n0 := VN.out.cell (i := 0) rfl; have z0 := VN.out.free 0; have n1 := VN.out.cell (i := 1) rfl; have z1 := VN.out.free 1; have n2 := VN.out.cell (i := 2) rfl; have z2 := VN.out.free 2; have n3 := VN.out.cell (i := 3) rfl; have z3 := VN.out.free 3)); (try replace Z1 := Lib.hid (own_below Z1.out hd)); replace c21 := cell_kept c21 hd; replace c22 := cell_kept c22 hd; replace c23 := cell_kept c23 hd; replace c24 := cell_kept c24 hd; replace HG := Lib.hid (HG.out.kept hd); replace HX := Lib.hid (HX.out.kept hd); replace hk2 := hk2.trans (hd.mono hk2.size); clear hd))
  all_goals (go_wp2_with fail; go_meet; first | with_reducible exact vdt_late hk2 Z1.out Z2.out hB1 hB2 a12 | exact vdt_early hk2 VN.out rfl hgz Z1.out Z2.out hB1 hB2 x1 x2 a12)
 case rest =>
  clear HX
  generalize wc = w4 at *
  obtain ⟨X, g1, c1, g2, c2, rfl, VN, O1, O2, a12, x1, x2, hX, hd⟩ := hcut
  replace VN := Lib.hid VN
  replace O1 := Lib.hid O1
  replace O2 := Lib.hid O2
  have hw3 := hb.size
  replace VR := Lib.hid (VR.out.kept hd)
  replace hb := hb.trans (hd.mono hb.size)
  clear hd HG HWD HWG
  by_cases hw : 0 < wr.length
  ·have HVE : Hid (x.verdict = ⟨wl, wr, true, wrap64 (- x.last.score)⟩) := Lib.hid (by rw [HVD.out, if_pos hw, decide_eq_true hw])
   have e1 : (0 : Int) < (wr.length : Int) := by omega
   clear HVD
   have n1 := VN.out.cell (i := 1) rfl
   have n2 := VN.out.cell (i := 2) rfl
   have f2 := VN.out.free 2
   go_upto_region 4 with fail
   obtain ⟨o2, k2⟩ := VN.out.set 2 (.bool true)
   clear n1 n2 f2
   have hw9 : Wrote w.heap.size [some ⟨X, 0, none⟩] _ _ := Wrote.of_grown (a := some ⟨X, 0, none⟩) (n := 0) (c := 0) k2 hb.size (fun q h => by cases h; show w.heap.size ≤ X; omega)
   replace O1 := Lib.hid (hw9.own (fun s hs => by rw [List.mem_singleton.1 hs]; exact offA_ne x1.symm) O1.out)
   replace O2 := Lib.hid (hw9.own (fun s hs => by rw [List.mem_singleton.1 hs]; exact offA_ne x2.symm) O2.out)
   replace VR := Lib.hid (VR.out.grown k2 (by intro e; have := Option.some.inj e; omega))
   replace hb := hb.grown k2 hb.size (fun q h => by have := Option.some.inj h; omega)
   clear VN hw9 k2
   have VN := Lib.hid o2
   clear o2
   generalize (w4.setCell ⟨X, 2, none⟩ (.bool true)) = w5 at *
   have n2 := VN.out.cell (i := 2) (v := .bool true) rfl
   have c27 := (HGW.out.kept hb).cell (i := 27) rfl
   have n3 := VN.out.cell (i := 3) (v := .int .i64 0) rfl
   have f3 := VN.out.free 3
   go_upto_region 8 with fail
   obtain ⟨o3, k3⟩ := VN.out.set 3 (.int .i64 (wrap64 (- x.last.score)))
   clear n2 c27 n3 f3
   have hw9 : Wrote w.heap.size [some ⟨X, 0, none⟩] _ _ := Wrote.of_grown (a := some ⟨X, 0, none⟩) (n := 0) (c := 0) k3 hb.size (fun q h => by cases h; show w.heap.size ≤ X; omega)
   replace O1 := Lib.hid (hw9.own (fun s hs => by rw [List.mem_singleton.1 hs]; exact offA_ne x1.symm) O1.out)
   replace O2 := Lib.hid (hw9.own (fun s hs => by rw [List.mem_singleton.1 hs]; exact offA_ne x2.symm) O2.out)
   replace VR := Lib.hid (VR.out.grown k3 (by intro e; have := Option.some.inj e; omega))
   replace hb := hb.grown k3 hb.size (fun q h => by have := Option.some.inj h; omega)
   clear VN hw9 k3
   have VN := Lib.hid o3
   clear o3
   generalize (w5.setCell ⟨X, 3, none⟩ (.int .i64 (wrap64 (- x.last.score)))) = w6 at *
   have n0 := VN.out.cell (i := 0) rfl
   have n1 := VN.out.cell (i := 1) rfl
   have n2 := VN.out.cell (i := 2) (v := .bool true) rfl
   have n3 := VN.out.cell (i := 3) (v := .int .i64 (wrap64 (- x.last.score))) rfl
   have u0 := VR.out.cell (i := 0) rfl
   have f0 := VR.out.free 0
   have u1 := VR.out.cell (i := 1) rfl
   have f1 := VR.out.free 1
   have u2 := VR.out.cell (i := 2) rfl
   have f2 := VR.out.free 2
   have u3 := VR.out.cell (i := 3) rfl
   have f3 := VR.out.free 3
   obtain ⟨o9, k9⟩ := VR.out.put (vcells ⟨wl, wr, true, wrap64 (- x.last.score)⟩ ⟨⟨some ⟨g1, 0, none⟩, c1⟩, ⟨some ⟨g2, 0, none⟩, c2⟩⟩) rfl
   have hb9 := hb.grown k9 hb.size (fun q h => by have := Option.some.inj h; omega)
   have hw9 : Wrote w.heap.size [some ⟨w.heap.size, 0, none⟩] _ _ := Wrote.of_grown (a := some ⟨w.heap.size, 0, none⟩) (n := 0) (c := 0) k9 hb.size (fun q h => by cases h; exact Nat.le_refl _)
   have P1 := Lib.hid (own_mono (hw9.own (fun s hs => by rw [List.mem_singleton.1 hs]; exact offA_ne (by have := (O1.out.lt g1 rfl).1; omega)) O1.out) hw3)
   have P2 := Lib.hid (own_mono (hw9.own (fun s hs => by rw [List.mem_singleton.1 hs]; exact offA_ne (by have := (O2.out.lt g2 rfl).1; omega)) O2.out) hw3)
   have HV := Lib.hid (run_loadVar_mid (w6.setCells w.heap.size 0 (vcells ⟨wl, wr, true, wrap64 (- x.last.score)⟩ ⟨⟨some ⟨g1, 0, none⟩, c1⟩, ⟨some ⟨g2, 0, none⟩, c2⟩⟩)) w.heap.size 0 81 (vcells ⟨wl, wr, true, wrap64 (- x.last.score)⟩ ⟨⟨some ⟨g1, 0, none⟩, c1⟩, ⟨some ⟨g2, 0, none⟩, c2⟩⟩) _ o9.range Tryz.underlying81 rfl (size_verdict _ _))
   clear o9 k9 hw9 VR VN O1 O2
   go_wp2
   refine bodyPost_ret (results_cell_var Tryz.results92 _ _ _ _ rfl HV.out) rfl ?_
   exact id (ver_post HVE.out rfl P1.out P2.out a12 hb9)
  ·have e1 : ¬ (0 : Int) < (wr.length : Int) := by omega
   have n1 := VN.out.cell (i := 1) rfl
   have n2 := VN.out.cell (i := 2) rfl
   have f2 := VN.out.free 2
   go_upto_region 4 with fail
   obtain ⟨o2, k2⟩ := VN.out.set 2 (.bool false)
   clear n1 n2 f2
   have hw9 : Wrote w.heap.size [some ⟨X, 0, none⟩] _ _ := Wrote.of_grown (a := some ⟨X, 0, none⟩) (n := 0) (c := 0) k2 hb.size (fun q h => by cases h; show w.heap.size ≤ X; omega)
   replace O1 := Lib.hid (hw9.own (fun s hs => by rw [List.mem_singleton.1 hs]; exact offA_ne x1.symm) O1.out)
   replace O2 := Lib.hid (hw9.own (fun s hs => by rw [List.mem_singleton.1 hs]; exact offA_ne x2.symm) O2.out)
   replace VR := Lib.hid (VR.out.grown k2 (by intro e; have := Option.some.inj e; omega))
   replace hb := hb.grown k2 hb.size (fun q h => by have := Option.some.inj h; omega)
   clear VN hw9 k2
   have VN := Lib.hid o2
   clear o2
   generalize (w4.setCell ⟨X, 2, none⟩ (.bool false)) = w5 at *
   have n2 := VN.out.cell (i := 2) (v := .bool false) rfl
   have c9 := (HGW.out.kept hb).cell (i := 9) rfl
   by_cases hr : x.setup.rule = 3
   ·have HVE : Hid (x.verdict = ⟨wl, wr, false, 5 * wl.length⟩) := Lib.hid (by rw [HVD.out, if_neg hw, if_pos hr, decide_eq_false hw])
    rw [hr] at c9
    clear HVD hr
    have wr5 : IntKind.i64.wrap (5 * (wl.length : Int)) = 5 * wl.length := IntWalk.i64_in _ (by omega)
    have n0 := VN.out.cell (i := 0) rfl
    have n3 := VN.out.cell (i := 3) (v := .int .i64 0) rfl
    have f3 := VN.out.free 3
    go_upto_region 8 with fail
    obtain ⟨o3, k3⟩ := VN.out.set 3 (.int .i64 (5 * wl.length))
    clear n0 n2 c9 n3 f3
    have hw9 : Wrote w.heap.size [some ⟨X, 0, none⟩] _ _ := Wrote.of_grown (a := some ⟨X, 0, none⟩) (n := 0) (c := 0) k3 hb.size (fun q h => by cases h; show w.heap.size ≤ X; omega)
    replace O1 := Lib.hid (hw9.own (fun s hs => by rw [List.mem_singleton.1 hs]; exact offA_ne x1.symm) O1.out)
    replace O2 := Lib.hid (hw9.own (fun s hs => by rw [List.mem_singleton.1 hs]; exact offA_ne x2.symm) O2.out)
    replace VR := Lib.hid (VR.out.grown k3 (by intro e; have := Option.some.inj e; omega))
    replace hb := hb.grown k3 hb.size (fun q h => by have := Option.some.inj h; omega)
    clear VN hw9 k3
    have VN := Lib.hid o3
    clear o3
    generalize (w5.setCell ⟨X, 3, none⟩ (.int .i64 (5 * wl.length))) = w6 at *
    have n0 := VN.out.cell (i := 0) rfl
    have n1 := VN.out.cell (i := 1) rfl
    have n2 := VN.out.cell (i := 2) (v := .bool false) rfl
    have n3 := VN.out.cell (i := 3) (v := .int .i64 (5 * wl.length)) rfl
    have u0 := VR.out.cell (i := 0) rfl
    have f0 := VR.out.free 0
    have u1 := VR.out.cell (i := 1) rfl
    have f1 := VR.out.free 1
    have u2 := VR.out.cell (i := 2) rfl
    have f2 := VR.out.free 2
    have u3 := VR.out.cell (i := 3) rfl
    have f3 := VR.out.free 3
    obtain ⟨o9, k9⟩ := VR.out.put (vcells ⟨wl, wr, false, 5 * wl.length⟩ ⟨⟨some ⟨g1, 0, none⟩, c1⟩, ⟨some ⟨g2, 0, none⟩, c2⟩⟩) rfl
    have hb9 := hb.grown k9 hb.size (fun q h => by have := Option.some.inj h; omega)
    have hw9 : Wrote w.heap.size [some ⟨w.heap.size, 0, none⟩] _ _ := Wrote.of_grown (a := some ⟨w.heap.size, 0, none⟩) (n := 0) (c := 0) k9 hb.size (fun q h => by cases h; exact Nat.le_refl _)
    have P1 := Lib.hid (own_mono (hw9.own (fun s hs => by rw [List.mem_singleton.1 hs]; exact offA_ne (by have := (O1.out.lt g1 rfl).1; omega)) O1.out) hw3)
    have P2 := Lib.hid (own_mono (hw9.own (fun s hs => by rw [List.mem_singleton.1 hs]; exact offA_ne (by have := (O2.out.lt g2 rfl).1; omega)) O2.out) hw3)
    have HV := Lib.hid (run_loadVar_mid (w6.setCells w.heap.size 0 (vcells ⟨wl, wr, false, 5 * wl.length⟩ ⟨⟨some ⟨g1, 0, none⟩, c1⟩, ⟨some ⟨g2, 0, none⟩, c2⟩⟩)) w.heap.size 0 81 (vcells ⟨wl, wr, false, 5 * wl.length⟩ ⟨⟨some ⟨g1, 0, none⟩, c1⟩, ⟨some ⟨g2, 0, none⟩, c2⟩⟩) _ o9.range Tryz.underlying81 rfl (size_verdict _ _))
    clear o9 k9 hw9 VR VN O1 O2
    go_wp2
    refine bodyPost_ret (results_cell_var Tryz.results92 _ _ _ _ rfl HV.out) rfl ?_
    exact id (ver_post HVE.out rfl P1.out P2.out a12 hb9)
   ·have HVE : Hid (x.verdict = ⟨wl, wr, false, 0⟩) := Lib.hid (by rw [HVD.out, if_neg hw, if_neg hr, decide_eq_false hw])
    have e2 : (x.setup.rule == 3) = false := by rw [beq_eq_false_iff_ne]; exact hr
    clear HVD hr
    go_upto_region 8 with fail
    clear n2 c9 e2
    have n0 := VN.out.cell (i := 0) rfl
    have n1 := VN.out.cell (i := 1) rfl
    have n2 := VN.out.cell (i := 2) (v := .bool false) rfl
    have n3 := VN.out.cell (i := 3) (v := .int .i64 (0)) rfl
    have u0 := VR.out.cell (i := 0) rfl
    have f0 := VR.out.free 0
    have u1 := VR.out.cell (i := 1) rfl
    have f1 := VR.out.free 1
    have u2 := VR.out.cell (i := 2) rfl
    have f2 := VR.out.free 2
    have u3 := VR.out.cell (i := 3) rfl
    have f3 := VR.out.free 3
    obtain ⟨o9, k9⟩ := VR.out.put (vcells ⟨wl, wr, false, 0⟩ ⟨⟨some ⟨g1, 0, none⟩, c1⟩, ⟨some ⟨g2, 0, none⟩, c2⟩⟩) rfl
    have hb9 := hb.grown k9 hb.size (fun q h => by have := Option.some.inj h; omega)
    have hw9 : Wrote w.heap.size [some ⟨w.heap.size, 0, none⟩] _ _ := Wrote.of_grown (a := some ⟨w.heap.size, 0, none⟩) (n := 0) (c := 0) k9 hb.size (fun q h => by cases h; exact Nat.le_refl _)
    have P1 := Lib.hid (own_mono (hw9.own (fun s hs => by rw [List.mem_singleton.1 hs]; exact offA_ne (by have := (O1.out.lt g1 rfl).1; omega)) O1.out) hw3)
    have P2 := Lib.hid (own_mono (hw9.own (fun s hs => by rw [List.mem_singleton.1 hs]; exact offA_ne (by have := (O2.out.lt g2 rfl).1; omega)) O2.out) hw3)
    have HV := Lib.hid (run_loadVar_mid (w5.setCells w.heap.size 0 (vcells ⟨wl, wr, false, 0⟩ ⟨⟨some ⟨g1, 0, none⟩, c1⟩, ⟨some ⟨g2, 0, none⟩, c2⟩⟩)) w.heap.size 0 81 (vcells ⟨wl, wr, false, 0⟩ ⟨⟨some ⟨g1, 0, none⟩, c1⟩, ⟨some ⟨g2, 0, none⟩, c2⟩⟩) _ o9.range Tryz.underlying81 rfl (size_verdict _ _))
    clear o9 k9 hw9 VR VN O1 O2
    go_wp2
    refine bodyPost_ret (results_cell_var Tryz.results92 _ _ _ _ rfl HV.out) rfl ?_
    exact id (ver_post HVE.out rfl P1.out P2.out a12 hb9)
end Go.Proofs.YtofcampipllegaaGreatDoor
