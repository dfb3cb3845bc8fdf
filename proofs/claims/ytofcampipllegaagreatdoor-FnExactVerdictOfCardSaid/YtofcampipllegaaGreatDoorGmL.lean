/- Contracts: the program's test of the last action of a game, and of games. Go's tables of unicode and unicode/utf8 hold what is laid (CEnv), internal/bytealg's MaxLen a number (EnvL). -/
import Derived.Test.YtofcampipllegaaGreatDoorGmK
namespace Go.Proofs.YtofcampipllegaaGreatDoor
open Go.ChangeShapes Go.WideShapes Go.ChangeAt Go.RowKit Go.Sort

theorem size_game (x : Gam) (p : GaA) : (Tryz.prog.info? 65).map (·.size) = some (gcells x p).length := by kernel_rfl
set_option maxRecDepth 100000 in
set_option maxHeartbeats 4000000 in
theorem lastFits_any (x : Gam) (p : GaA) (w : World) (ha : x.At p w) (hE : CEnv w)
  (HPF : Hid (∀ W, x.At p W → CEnv W → Calls Tryz.prog 223 #[.agg (gcells x p).toArray] W fun e w' => e = .returned (.bool x.playOk) ∧ Below W.heap.size W w')) :
  Calls Tryz.prog 147 #[.agg (gcells x p).toArray] w fun e w' => e = .returned (.bool x.lastOk) ∧ Below w.heap.size w w' := by
 have HG := Lib.hid (GAt.new w x p 65 ha)
 have hb : Below w.heap.size w (w.alloc (.cells (gcells x p).toArray 65)) := (Below.refl _ _).alloc (Nat.le_refl _) _
 have HE := Lib.hid (hE.kept hb)
 have HSZ := Lib.hid (size_game x p)
 have HRA : Hid ((w.alloc (.cells (gcells x p).toArray 65)).rangeAt w.heap.size 0 (gcells x p)) := Lib.hid HG.out.cells
 have hgq : Tryz.prog.eqGuardType Tryz.prog.depth 63 = false := by kernel_rfl
 have HB0 : Hid (∀ W, (binOp .eql 63 (.agg #[.int .i64 0, .int .i64 x.last.player, .int .i64 x.last.play.row, .int .i64 x.last.play.col, .bool x.last.play.down, .string x.last.play.word, .string x.last.before, .string x.last.drawn, .int .i64 x.last.score, .int .i64 x.last.zeros]) (.agg #[.int .i64 0, .int .i64 0, .int .i64 0, .int .i64 0, .bool false, .string ⟨#[]⟩, .string ⟨#[]⟩, .string ⟨#[]⟩, .int .i64 0, .int .i64 0])).run Tryz.prog W = .ok (.bool (x.last.bare && decide (x.last.player = 0))) W) := Lib.hid (fun W => by
  rw [eql_last, bare_eq, beq_self_eq_true, Bool.true_and, Bool.and_comm]
  rfl)
 have HBV : Hid (∀ k W, (binOp .eql 63 (.agg #[.int .i64 k, .int .i64 x.last.player, .int .i64 x.last.play.row, .int .i64 x.last.play.col, .bool x.last.play.down, .string x.last.play.word, .string x.last.before, .string x.last.drawn, .int .i64 x.last.score, .int .i64 x.last.zeros]) (.agg #[.int .i64 k, .int .i64 x.last.player, .int .i64 0, .int .i64 0, .bool false, .string ⟨#[]⟩, .string ⟨#[]⟩, .string ⟨#[]⟩, .int .i64 0, .int .i64 0])).run Tryz.prog W = .ok (.bool x.last.bare) W) := Lib.hid (fun k W => by
  rw [eql_last, bare_eq, beq_self_eq_true, beq_self_eq_true, Bool.true_and, Bool.true_and])
 have HLO : Hid (x.lastOk = if x.last.kind = 0 then x.last.bare && decide (x.last.player = 0) else if x.last.kind = 2 then x.last.bare && withinB x.last.player 0 1 else if x.last.kind = 3 then x.last.bare && withinB x.last.player 0 1 else if x.last.kind = 1 then x.playOk else false) := Lib.hid rfl
 have HWI : Hid (∀ W, Calls Tryz.prog 144 #[.int .i64 x.last.player, .int .i64 0, .int .i64 1] W fun e w' => e = .returned (.bool (withinB x.last.player 0 1)) ∧ W = w') := Lib.hid (fun W => within_any _ _ _ W)
 clear ha hE
 generalize x.lastOk = ans at *
 generalize x.last.bare = bv at *
 obtain ⟨cs, hcs⟩ : ∃ cs, cs = gcells x p := ⟨_, rfl⟩
 rw [← hcs]
 rw [← hcs] at HG hb HE HSZ HRA HPF
 clear hcs
 go_enter Tryz.func147, Tryz.ntmps147
 go_upto_region 1 with fail
 generalize w.alloc (.cells cs.toArray 65) = w1 at *
 by_cases h0 : x.last.kind = 0
 ·have HN : Hid (ans = (bv && decide (x.last.player = 0))) := Lib.hid (by rw [HLO.out, if_pos h0])
  have c19 := HG.out.cell (i := 19) rfl
  have c20 := HG.out.cell (i := 20) rfl
  have c21 := HG.out.cell (i := 21) rfl
  have c22 := HG.out.cell (i := 22) rfl
  have c23 := HG.out.cell (i := 23) rfl
  have c24 := HG.out.cell (i := 24) rfl
  have c25 := HG.out.cell (i := 25) rfl
  have c26 := HG.out.cell (i := 26) rfl
  have c27 := HG.out.cell (i := 27) rfl
  have c28 := HG.out.cell (i := 28) rfl
  rw [h0] at c19
  clear HLO
  have hq := HB0.out
  generalize (bv && decide (x.last.player = 0)) = rv at *
  go_wp2
  go_ret
  exact ⟨ret_bool HN.out.symm, hb⟩
 ·by_cases h2 : x.last.kind = 2 ∨ x.last.kind = 3
  ·have HN : Hid (ans = (bv && withinB x.last.player 0 1)) := Lib.hid (by
    rw [HLO.out, if_neg h0]
    rcases h2 with h2 | h2
    ·rw [if_pos h2]
    ·rw [if_neg (by omega), if_pos h2])
   rcases h2 with h2 | h2
   all_goals
    have c19 := HG.out.cell (i := 19) rfl
    have c20 := HG.out.cell (i := 20) rfl
    have c21 := HG.out.cell (i := 21) rfl
    have c22 := HG.out.cell (i := 22) rfl
    have c23 := HG.out.cell (i := 23) rfl
    have c24 := HG.out.cell (i := 24) rfl
    have c25 := HG.out.cell (i := 25) rfl
    have c26 := HG.out.cell (i := 26) rfl
    have c27 := HG.out.cell (i := 27) rfl
    have c28 := HG.out.cell (i := 28) rfl
    rw [h2] at c19
    have hq := HBV.out x.last.kind
    rw [h2] at hq
    have H2 := Lib.hid h2
    clear HLO h2 h0
    generalize withinB x.last.player 0 1 = iv at *
    go_wp2_with fail
    refine (HWI.out _).mono ?_
    rintro e w' ⟨rfl, rfl⟩
    cases iv with
    | false =>
     go_wp2
     go_ret
     exact ⟨ret_bool (by rw [HN.out, Bool.and_false]), hb⟩
    | true =>
     go_wp2
     go_ret
     exact ⟨ret_bool (by rw [HN.out, Bool.and_true]), hb⟩
  ·by_cases h1 : x.last.kind = 1
   ·have HN : Hid (ans = x.playOk) := Lib.hid (by rw [HLO.out, if_neg h0, if_neg (by omega), if_neg (by omega), if_pos h1])
    have c19 := HG.out.cell (i := 19) rfl
    rw [h1] at c19
    have rA := HRA.out
    clear HLO
    go_upto_region 8 with fail
    refine wp_region_list ?_
    refine wpList_load_mid rfl 65 _ rfl w.heap.size 0 rfl cs _ rA Tryz.underlying65 rfl HSZ.out ?_
    clear rA c19
    go_wp2_with fail
    refine (HPF.out _ HG.out.at_ HE.out).mono ?_
    rintro e w3 ⟨rfl, hd⟩
    replace hb := hb.trans (hd.mono hb.size)
    clear hd
    go_wp2
    go_ret
    exact ⟨ret_bool HN.out.symm, hb⟩
   ·have HN : Hid (ans = false) := Lib.hid (by rw [HLO.out, if_neg h0, if_neg (by omega), if_neg (by omega), if_neg h1])
    have k2 : ¬ x.last.kind = 2 := by omega
    have k3 : ¬ x.last.kind = 3 := by omega
    have c19 := HG.out.cell (i := 19) rfl
    clear HLO
    go_wp2
    go_ret
    exact ⟨ret_bool HN.out.symm, hb⟩
end Go.Proofs.YtofcampipllegaaGreatDoor
