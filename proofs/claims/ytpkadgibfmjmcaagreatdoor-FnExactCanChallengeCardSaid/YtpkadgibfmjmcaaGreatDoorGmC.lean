/- Contracts: whether the last play may be challenged: the program and the reference. Go's tables of unicode and unicode/utf8 hold what is laid (CEnv), internal/bytealg's MaxLen a number (EnvL); texts fit. -/
import Derived.Test.YtpkadgibfmjmcaaGreatDoorGmN
namespace Go.Proofs.YtpkadgibfmjmcaaGreatDoor
open Go.ChangeShapes Go.WideShapes Go.ChangeAt Go.RowKit Go.Sort

/-- whether the last play may be challenged, of a game that is valid -/
def Gam.may (x : Gam) : Bool := !x.over && (decide (¬ x.setup.rule = 0) && decide (x.last.kind = 1))
def Gam.can (x : Gam) : Bool := x.ok && x.may
theorem may0 {x : Gam} (h : x.over = true) : x.may = false := by unfold Gam.may; rw [h]; rfl
theorem may1 {x : Gam} (h : x.setup.rule = 0) : x.may = false := by unfold Gam.may; rw [h]; simp
theorem may2 {x : Gam} (h : ¬ x.last.kind = 1) : x.may = false := by unfold Gam.may; rw [decide_eq_false h]; simp
theorem may3 {x : Gam} (h : x.over = false) (h1 : ¬ x.setup.rule = 0) (h2 : x.last.kind = 1) : x.may = true := by unfold Gam.may; rw [h, h2, decide_eq_true h1]; rfl
set_option maxRecDepth 100000 in
set_option maxHeartbeats 8000000 in
theorem l19Can_any (x : Gam) (p : GaA) (g : Nat) (w : World) (hg : GAt w g x p) :
    Calls Tryz.prog 87 #[.pointer (some ⟨g, 0, none⟩)] w fun e w' => e = .returned (.bool x.may) ∧ Below w.heap.size w w' := by
  have hlt := hg.lt
  have HG := Lib.hid hg
  have hb : Below w.heap.size w w := Below.refl _ _
  clear hg
  go_enter Tryz.func87, Tryz.ntmps87
  go_upto_region 1 with fail
  have c9 := HG.out.cell (i := 9) rfl
  have c19 := HG.out.cell (i := 19) rfl
  have c29 := HG.out.cell (i := 29) rfl
  cases ho : x.over with
  | true =>
    have HW := Lib.hid (may0 ho)
    rw [ho] at c29
    clear ho
    go_wp2
    go_ret
    exact ⟨ret_bool (by rw [HW.out]), hb⟩
  | false =>
    rw [ho] at c29
    by_cases h1 : x.setup.rule = 0
    · have HW := Lib.hid (may1 h1)
      have e1 : (x.setup.rule != 0) = false := by rw [h1]; rfl
      clear ho h1
      go_wp2
      go_ret
      exact ⟨ret_bool (by rw [HW.out]), hb⟩
    · have e1 : (x.setup.rule != 0) = true := by rw [bne_iff_ne]; exact h1
      by_cases h2 : x.last.kind = 1
      · have HW := Lib.hid (may3 ho h1 h2)
        have e2 : (x.last.kind == 1) = true := by rw [h2]; rfl
        clear ho h1 h2
        go_wp2
        go_ret
        exact ⟨ret_bool (by rw [HW.out]), hb⟩
      · have HW := Lib.hid (may2 h2)
        have e2 : (x.last.kind == 1) = false := by rw [beq_eq_false_iff_ne]; exact h2
        clear ho h1 h2
        go_wp2
        go_ret
        exact ⟨ret_bool (by rw [HW.out]), hb⟩
set_option maxRecDepth 100000 in
set_option maxHeartbeats 8000000 in
theorem canChallenge_any (x : Gam) (p : GaA) (w : World) (ha : x.At p w) :
    Calls Tryz.prog 88 #[.agg (gcells x p).toArray] w fun e w' => e = .returned (.bool x.may) ∧ Below w.heap.size w w' := by
  have HG := Lib.hid (GAt.new w x p 75 ha)
  have hb : Below w.heap.size w (w.alloc (.cells (gcells x p).toArray 75)) := (Below.refl _ _).alloc (Nat.le_refl _) _
  clear ha
  obtain ⟨cs, hcs⟩ : ∃ cs, cs = gcells x p := ⟨_, rfl⟩
  rw [← hcs]
  rw [← hcs] at HG hb
  clear hcs
  go_enter Tryz.func88, Tryz.ntmps88
  go_upto_region 1 with fail
  generalize w.alloc (.cells cs.toArray 75) = w1 at *
  have c9 := HG.out.cell (i := 9) rfl
  have c19 := HG.out.cell (i := 19) rfl
  have c29 := HG.out.cell (i := 29) rfl
  cases ho : x.over with
  | true =>
    have HW := Lib.hid (may0 ho)
    rw [ho] at c29
    clear ho
    go_wp2
    go_ret
    exact ⟨ret_bool (by rw [HW.out]), hb⟩
  | false =>
    rw [ho] at c29
    by_cases h1 : x.setup.rule = 0
    · have HW := Lib.hid (may1 h1)
      have e1 : (x.setup.rule != 0) = false := by rw [h1]; rfl
      clear ho h1
      go_wp2
      go_ret
      exact ⟨ret_bool (by rw [HW.out]), hb⟩
    · have e1 : (x.setup.rule != 0) = true := by rw [bne_iff_ne]; exact h1
      by_cases h2 : x.last.kind = 1
      · have HW := Lib.hid (may3 ho h1 h2)
        have e2 : (x.last.kind == 1) = true := by rw [h2]; rfl
        clear ho h1 h2
        go_wp2
        go_ret
        exact ⟨ret_bool (by rw [HW.out]), hb⟩
      · have HW := Lib.hid (may2 h2)
        have e2 : (x.last.kind == 1) = false := by rw [beq_eq_false_iff_ne]; exact h2
        clear ho h1 h2
        go_wp2
        go_ret
        exact ⟨ret_bool (by rw [HW.out]), hb⟩
set_option maxRecDepth 100000 in
set_option maxHeartbeats 8000000 in
theorem specCanChallenge_any (x : Gam) (p : GaA) (w : World) (ha : x.At p w) (hf : x.fit) :
    Calls Tryz.prog 42 #[.agg (gcells x p).toArray] w fun e w' => e = .returned (.bool x.can) ∧ Below w.heap.size w w' := by
  have HG := Lib.hid (GAt.new w x p 75 ha)
  have hb : Below w.heap.size w (w.alloc (.cells (gcells x p).toArray 75)) := (Below.refl _ _).alloc (Nat.le_refl _) _
  have HOK : Hid (∀ W, GAt W w.heap.size x p → Calls Tryz.prog 73 #[.pointer (some ⟨w.heap.size, 0, none⟩)] W fun e w' => e = .returned (.bool x.ok) ∧ Below W.heap.size W w') := Lib.hid (fun W h => l18Ok_any x p w.heap.size W h hf)
  have HCA : Hid (∀ W, GAt W w.heap.size x p → Calls Tryz.prog 87 #[.pointer (some ⟨w.heap.size, 0, none⟩)] W fun e w' => e = .returned (.bool x.may) ∧ Below W.heap.size W w') := Lib.hid (fun W h => l19Can_any x p w.heap.size W h)
  have HCN : Hid (x.can = (x.ok && x.may)) := Lib.hid rfl
  clear ha hf
  obtain ⟨cs, hcs⟩ : ∃ cs, cs = gcells x p := ⟨_, rfl⟩
  rw [← hcs]
  rw [← hcs] at HG hb
  clear hcs
  generalize x.can = cn at *
  generalize x.ok = ok at *
  generalize x.may = mv at *
  go_enter Tryz.func42, Tryz.ntmps42
  go_wp2_with fail
  refine (HOK.out _ HG.out).mono ?_
  rintro e w2 ⟨rfl, hd⟩
  replace hb := hb.trans (hd.mono hb.size)
  replace HG := Lib.hid (HG.out.kept hd)
  clear hd
  clear HOK
  cases ok with
  | false =>
    go_wp2
    go_ret
    exact ⟨ret_bool (by rw [HCN.out]; rfl), hb⟩
  | true =>
    go_wp2_with fail
    refine (HCA.out _ HG.out).mono ?_
    rintro e w3 ⟨rfl, hd⟩
    replace hb := hb.trans (hd.mono hb.size)
    replace HG := Lib.hid (HG.out.kept hd)
    clear hd
    go_wp2
    go_ret
    exact ⟨ret_bool (by rw [HCN.out]; rfl), hb⟩
set_option maxRecDepth 100000 in
set_option maxHeartbeats 8000000 in
theorem implCanChallenge_any (x : Gam) (p : GaA) (w : World) (ha : x.At p w) (hf : x.fit) (htz : x.setup.tiles.letters.size ≤ 1048576) (hwz : x.last.play.word.size ≤ 1048576) (hE : CEnv w) (hL : EnvL w) :
    Calls Tryz.prog 43 #[.agg (gcells x p).toArray] w fun e w' => e = .returned (.bool x.can) ∧ Below w.heap.size w w' := by
  have HG := Lib.hid (GAt.new w x p 75 ha)
  have hb : Below w.heap.size w (w.alloc (.cells (gcells x p).toArray 75)) := (Below.refl _ _).alloc (Nat.le_refl _) _
  have HE := Lib.hid (hE.kept hb)
  have HL := Lib.hid (hL.kept hb)
  have HSZ := Lib.hid (size_game x p)
  have HCS : Hid (∀ W, GAt W w.heap.size x p → W.rangeAt w.heap.size 0 (gcells x p)) := Lib.hid (fun _ h => h.cells)
  have HVG : Hid (∀ W, x.At p W → CEnv W → EnvL W → Calls Tryz.prog 36 #[.agg (gcells x p).toArray] W fun e w' => e = .returned (.bool x.ok) ∧ Below W.heap.size W w') := Lib.hid (fun W h h2 h3 => implValidGame_any x p W h hf htz hwz h2 h3)
  have HCA : Hid (∀ W, x.At p W → Calls Tryz.prog 88 #[.agg (gcells x p).toArray] W fun e w' => e = .returned (.bool x.may) ∧ Below W.heap.size W w') := Lib.hid (fun W h => canChallenge_any x p W h)
  have HCN : Hid (x.can = (x.ok && x.may)) := Lib.hid rfl
  clear ha hf htz hwz hE hL
  obtain ⟨cs, hcs⟩ : ∃ cs, cs = gcells x p := ⟨_, rfl⟩
  rw [← hcs]
  rw [← hcs] at HG hb HE HL HSZ HVG HCA HCS
  clear hcs
  generalize x.can = cn at *
  generalize x.ok = ok at *
  generalize x.may = mv at *
  go_enter Tryz.func43, Tryz.ntmps43
  go_upto_region 1 with fail
  generalize w.alloc (.cells cs.toArray 75) = w1 at *
  have rA := HCS.out _ HG.out
  refine wp_region_list ?_
  refine wpList_load_mid rfl 75 _ rfl w.heap.size 0 rfl cs _ rA Tryz.underlying75 rfl HSZ.out ?_
  clear rA
  go_wp2_with fail
  refine (HVG.out _ HG.out.at_ HE.out HL.out).mono ?_
  rintro e w2 ⟨rfl, hd⟩
  replace hb := hb.trans (hd.mono hb.size)
  replace HG := Lib.hid (HG.out.kept hd)
  clear hd
  clear HVG HE HL
  cases ok with
  | false =>
    go_wp2
    go_ret
    exact ⟨ret_bool (by rw [HCN.out]; rfl), hb⟩
  | true =>
    have rA := HCS.out _ HG.out
    go_upto_region 2 with (refine wpList_load_midG (by simp [go_sem]) 75 _ rfl w.heap.size 0 rfl cs _ rA Tryz.underlying75 rfl HSZ.out ?_)
    clear rA
    go_wp2_with fail
    refine (HCA.out _ HG.out.at_).mono ?_
    rintro e w3 ⟨rfl, hd⟩
    replace hb := hb.trans (hd.mono hb.size)
    replace HG := Lib.hid (HG.out.kept hd)
    clear hd
    go_wp2
    go_ret
    exact ⟨ret_bool (by rw [HCN.out]; rfl), hb⟩
end Go.Proofs.YtpkadgibfmjmcaaGreatDoor
