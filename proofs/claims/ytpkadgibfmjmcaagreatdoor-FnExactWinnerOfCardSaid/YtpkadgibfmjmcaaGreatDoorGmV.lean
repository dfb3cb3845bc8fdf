/- Contracts: the winner of a game: the program and the reference. Go's tables of unicode and unicode/utf8 hold what is laid (CEnv), internal/bytealg's MaxLen a number (EnvL); texts fit. -/
import Derived.Test.YtpkadgibfmjmcaaGreatDoorGmN
namespace Go.Proofs.YtpkadgibfmjmcaaGreatDoor
open Go.ChangeShapes Go.WideShapes Go.ChangeAt Go.RowKit Go.Sort

/-- the lengths in a game that is valid -/
theorem Gam.ok_list {x : Gam} (h : x.ok = true) : x.racks.length = 2 ∧ x.scores.length = 2 := by
  cases hl : x.listOk with
  | false => rw [Gam.no_list hl] at h; cases h
  | true =>
    unfold Gam.listOk at hl
    simp only [Bool.and_eq_true, decide_eq_true_eq] at hl
    exact ⟨by omega, by omega⟩
/-- who has won, and a code -/
def Gam.winner (x : Gam) : Int × Int := if x.ok = false then (0, 1) else if x.over = false then (0, 6) else if x.scores.getD 1 0 < x.scores.getD 0 0 then (0, 0) else if x.scores.getD 0 0 < x.scores.getD 1 0 then (1, 0) else (-1, 0)
theorem Gam.winner0 {x : Gam} (h : x.ok = false) : x.winner = (0, 1) := by unfold Gam.winner; rw [if_pos h]
theorem Gam.winner1 {x : Gam} (h : x.ok = true) (h1 : x.over = false) : x.winner = (0, 6) := by unfold Gam.winner; rw [if_neg (by rw [h]; decide), if_pos h1]
theorem Gam.winner2 {x : Gam} (h : x.ok = true) (h1 : x.over = true) (h2 : x.scores.getD 1 0 < x.scores.getD 0 0) : x.winner = (0, 0) := by unfold Gam.winner; rw [if_neg (by rw [h]; decide), if_neg (by rw [h1]; decide), if_pos h2]
theorem Gam.winner3 {x : Gam} (h : x.ok = true) (h1 : x.over = true) (h2 : x.scores.getD 0 0 < x.scores.getD 1 0) : x.winner = (1, 0) := by unfold Gam.winner; rw [if_neg (by rw [h]; decide), if_neg (by rw [h1]; decide), if_neg (by omega), if_pos h2]
theorem Gam.winner4 {x : Gam} (h : x.ok = true) (h1 : x.over = true) (h2 : x.scores.getD 0 0 = x.scores.getD 1 0) : x.winner = (-1, 0) := by unfold Gam.winner; rw [if_neg (by rw [h]; decide), if_neg (by rw [h1]; decide), if_neg (by omega), if_neg (by omega)]
theorem ret_two {w w' : World} {p : Int × Int} {a b : Int} {e : Ending} (h : p = (a, b)) (he : e = .returned (.tuple #[.int .i64 a, .int .i64 b])) (hb : Below w.heap.size w w') : e = .returned (.tuple #[.int .i64 p.1, .int .i64 p.2]) ∧ Below w.heap.size w w' := by
  rw [h]
  exact ⟨he, hb⟩
set_option maxRecDepth 100000 in
set_option maxHeartbeats 8000000 in
theorem specWinnerOf_any (x : Gam) (p : GaA) (w : World) (ha : x.At p w) (hf : x.fit) :
    Calls Tryz.prog 38 #[.agg (gcells x p).toArray] w fun e w' => e = .returned (.tuple #[.int .i64 x.winner.1, .int .i64 x.winner.2]) ∧ Below w.heap.size w w' := by
  have HG := Lib.hid (GAt.new w x p 75 ha)
  have hb : Below w.heap.size w (w.alloc (.cells (gcells x p).toArray 75)) := (Below.refl _ _).alloc (Nat.le_refl _) _
  have HOK : Hid (∀ W, GAt W w.heap.size x p → Calls Tryz.prog 73 #[.pointer (some ⟨w.heap.size, 0, none⟩)] W fun e w' => e = .returned (.bool x.ok) ∧ Below W.heap.size W w') := Lib.hid (fun W h => l18Ok_any x p w.heap.size W h hf)
  clear ha hf
  obtain ⟨cs, hcs⟩ : ∃ cs, cs = gcells x p := ⟨_, rfl⟩
  rw [← hcs]
  rw [← hcs] at HG hb
  clear hcs
  go_enter Tryz.func38, Tryz.ntmps38
  go_wp2_with fail
  refine (HOK.out _ HG.out).mono ?_
  rintro e w2 ⟨rfl, hd⟩
  replace hb := hb.trans (hd.mono hb.size)
  replace HG := Lib.hid (HG.out.kept hd)
  clear hd
  clear HOK
  cases hk : x.ok with
  | false =>
    have HW := Lib.hid (Gam.winner0 hk)
    clear hk
    go_wp2
    go_ret2
    exact ret_two (HW.out) rfl hb
  | true =>
    have HK := Lib.hid hk
    clear hk
    have c29 := HG.out.cell (i := 29) rfl
    cases ho : x.over with
    | false =>
      have HW := Lib.hid (Gam.winner1 HK.out ho)
      rw [ho] at c29
      clear ho
      go_wp2
      go_ret2
      exact ret_two (HW.out) rfl hb
    | true =>
      have HO := Lib.hid ho
      rw [ho] at c29
      clear ho
      go_upto_region 5 with fail
      clear c29
      have L2 := (Gam.ok_list HK.out).2
      obtain ⟨sb, so, hsa, s0⟩ := num_cell (HG.out.at_.2.2.1) (show 0 < x.scores.length by omega)
      obtain ⟨sb1, so1, hsb, s1⟩ := num_cell (HG.out.at_.2.2.1) (show 1 < x.scores.length by omega)
      rw [hsa] at hsb
      cases hsb
      have c15 := HG.out.cell (i := 15) rfl
      rw [hsa, L2] at c15
      rw [Nat.add_zero] at s0
      clear hsa L2
      have W2 := Lib.hid (fun h2 => Gam.winner2 (x := x) HK.out HO.out h2)
      have W3 := Lib.hid (fun h2 => Gam.winner3 (x := x) HK.out HO.out h2)
      have W4 := Lib.hid (fun h2 => Gam.winner4 (x := x) HK.out HO.out h2)
      generalize x.scores.getD 0 0 = n0 at *
      generalize x.scores.getD 1 0 = n1 at *
      clear HG
      by_cases h2 : n1 < n0
      · go_quiet (fail)
        have hd : Below w2.heap.size w2 (w2.drewN nq) := (Drew.drewN (Drew.refl _) nq).below _
        replace hb := hb.trans (hd.mono hb.size)
        replace c15 := cell_kept c15 hd
        replace s0 := cell_kept s0 hd
        replace s1 := cell_kept s1 hd
        clear hd
        generalize w2.drewN nq = w3 at *
        go_wp2
        go_ret2
        exact ret_two (W2.out h2) rfl hb
      · go_quiet (fail)
        have hd : Below w2.heap.size w2 (w2.drewN nq) := (Drew.drewN (Drew.refl _) nq).below _
        replace hb := hb.trans (hd.mono hb.size)
        replace c15 := cell_kept c15 hd
        replace s0 := cell_kept s0 hd
        replace s1 := cell_kept s1 hd
        clear hd
        generalize w2.drewN nq = w3 at *
        go_upto_region 7 with fail
        by_cases h3 : n0 < n1
        · go_quiet (fail)
          have hd : Below w3.heap.size w3 (w3.drewN nq) := (Drew.drewN (Drew.refl _) nq).below _
          replace hb := hb.trans (hd.mono hb.size)
          clear hd
          generalize w3.drewN nq = w4 at *
          go_wp2
          go_ret2
          exact ret_two (W3.out h3) rfl hb
        · go_quiet (fail)
          have hd : Below w3.heap.size w3 (w3.drewN nq) := (Drew.drewN (Drew.refl _) nq).below _
          replace hb := hb.trans (hd.mono hb.size)
          clear hd
          generalize w3.drewN nq = w4 at *
          go_wp2
          go_ret2
          exact ret_two (W4.out (by omega)) rfl hb
set_option maxRecDepth 100000 in
set_option maxHeartbeats 8000000 in
theorem implWinnerOf_any (x : Gam) (p : GaA) (w : World) (ha : x.At p w) (hf : x.fit) (htz : x.setup.tiles.letters.size ≤ 1048576) (hwz : x.last.play.word.size ≤ 1048576) (hE : CEnv w) (hL : EnvL w) :
    Calls Tryz.prog 39 #[.agg (gcells x p).toArray] w fun e w' => e = .returned (.tuple #[.int .i64 x.winner.1, .int .i64 x.winner.2]) ∧ Below w.heap.size w w' := by
  have HG := Lib.hid (GAt.new w x p 75 ha)
  have hb : Below w.heap.size w (w.alloc (.cells (gcells x p).toArray 75)) := (Below.refl _ _).alloc (Nat.le_refl _) _
  have HE := Lib.hid (hE.kept hb)
  have HL := Lib.hid (hL.kept hb)
  have HSZ := Lib.hid (size_game x p)
  have HRA : Hid ((w.alloc (.cells (gcells x p).toArray 75)).rangeAt w.heap.size 0 (gcells x p)) := Lib.hid HG.out.cells
  have HVG : Hid (∀ W, x.At p W → CEnv W → EnvL W → Calls Tryz.prog 36 #[.agg (gcells x p).toArray] W fun e w' => e = .returned (.bool x.ok) ∧ Below W.heap.size W w') := Lib.hid (fun W h h2 h3 => implValidGame_any x p W h hf htz hwz h2 h3)
  clear ha hf htz hwz hE hL
  obtain ⟨cs, hcs⟩ : ∃ cs, cs = gcells x p := ⟨_, rfl⟩
  rw [← hcs]
  rw [← hcs] at HG hb HE HL HSZ HRA HVG
  clear hcs
  go_enter Tryz.func39, Tryz.ntmps39
  go_upto_region 1 with fail
  generalize w.alloc (.cells cs.toArray 75) = w1 at *
  have rA := HRA.out
  clear HRA
  refine wp_region_list ?_
  refine wpList_load_mid rfl 75 _ rfl w.heap.size 0 rfl cs _ rA Tryz.underlying75 rfl HSZ.out ?_
  clear rA
  go_wp2_with fail
  refine (HVG.out _ HG.out.at_ HE.out HL.out).mono ?_
  rintro e w2 ⟨rfl, hd⟩
  replace hb := hb.trans (hd.mono hb.size)
  replace HG := Lib.hid (HG.out.kept hd)
  clear hd
  clear HVG HE HL HSZ
  cases hk : x.ok with
  | false =>
    have HW := Lib.hid (Gam.winner0 hk)
    clear hk
    go_wp2
    go_ret2
    exact ret_two (HW.out) rfl hb
  | true =>
    have HK := Lib.hid hk
    clear hk
    have c29 := HG.out.cell (i := 29) rfl
    cases ho : x.over with
    | false =>
      have HW := Lib.hid (Gam.winner1 HK.out ho)
      rw [ho] at c29
      clear ho
      go_wp2
      go_ret2
      exact ret_two (HW.out) rfl hb
    | true =>
      have HO := Lib.hid ho
      rw [ho] at c29
      clear ho
      go_upto_region 5 with fail
      clear c29
      have L2 := (Gam.ok_list HK.out).2
      obtain ⟨sb, so, hsa, s0⟩ := num_cell (HG.out.at_.2.2.1) (show 0 < x.scores.length by omega)
      obtain ⟨sb1, so1, hsb, s1⟩ := num_cell (HG.out.at_.2.2.1) (show 1 < x.scores.length by omega)
      rw [hsa] at hsb
      cases hsb
      have c15 := HG.out.cell (i := 15) rfl
      rw [hsa, L2] at c15
      rw [Nat.add_zero] at s0
      clear hsa L2
      have W2 := Lib.hid (fun h2 => Gam.winner2 (x := x) HK.out HO.out h2)
      have W3 := Lib.hid (fun h2 => Gam.winner3 (x := x) HK.out HO.out h2)
      have W4 := Lib.hid (fun h2 => Gam.winner4 (x := x) HK.out HO.out h2)
      generalize x.scores.getD 0 0 = n0 at *
      generalize x.scores.getD 1 0 = n1 at *
      clear HG
      by_cases h4 : n0 = n1
      · have h4' : (n0 == n1) = true := by rw [h4]; simp
        have W4' := Lib.hid (W4.out h4)
        clear W2 W3 W4 h4
        go_quiet (fail)
        have hd : Below w2.heap.size w2 (w2.drewN nq) := (Drew.drewN (Drew.refl _) nq).below _
        replace hb := hb.trans (hd.mono hb.size)
        replace c15 := cell_kept c15 hd
        replace s0 := cell_kept s0 hd
        replace s1 := cell_kept s1 hd
        clear hd
        generalize w2.drewN nq = w3 at *
        go_wp2
        go_ret2
        exact ret_two (W4'.out) rfl hb
      · have h4' : (n0 == n1) = false := by rw [beq_eq_false_iff_ne]; exact h4
        go_quiet (fail)
        have hd : Below w2.heap.size w2 (w2.drewN nq) := (Drew.drewN (Drew.refl _) nq).below _
        replace hb := hb.trans (hd.mono hb.size)
        replace c15 := cell_kept c15 hd
        replace s0 := cell_kept s0 hd
        replace s1 := cell_kept s1 hd
        clear hd
        generalize w2.drewN nq = w3 at *
        go_upto_region 7 with fail
        by_cases h3 : n0 < n1
        · go_quiet (fail)
          have hd : Below w3.heap.size w3 (w3.drewN nq) := (Drew.drewN (Drew.refl _) nq).below _
          replace hb := hb.trans (hd.mono hb.size)
          clear hd
          generalize w3.drewN nq = w4 at *
          go_wp2
          go_ret2
          exact ret_two (W3.out h3) rfl hb
        · go_quiet (fail)
          have hd : Below w3.heap.size w3 (w3.drewN nq) := (Drew.drewN (Drew.refl _) nq).below _
          replace hb := hb.trans (hd.mono hb.size)
          clear hd
          generalize w3.drewN nq = w4 at *
          go_wp2
          go_ret2
          exact ret_two (W2.out (by omega)) rfl hb
end Go.Proofs.YtpkadgibfmjmcaaGreatDoor
