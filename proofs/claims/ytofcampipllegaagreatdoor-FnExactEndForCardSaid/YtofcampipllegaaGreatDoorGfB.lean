/- Contracts: the endgame of a game: the program and the reference. Go's tables of unicode and unicode/utf8 hold what is laid (CEnv), internal/bytealg's MaxLen a number (EnvL); texts fit. -/
import Derived.Test.YtofcampipllegaaGreatDoorGfA
namespace Go.Proofs.YtofcampipllegaaGreatDoor
open Go.ChangeShapes Go.WideShapes Go.ChangeAt Go.RowKit Go.Sort

theorem size_end (E : Edg) : (Tryz.prog.info? 55).map (·.size) = some (ecells E).length := by kernel_rfl
theorem ecells_one (E : Edg) : ∀ v ∈ ecells E, v.oneCell' = true := by
 intro v hv
 simp only [ecells, List.mem_cons, List.not_mem_nil, or_false] at hv
 rcases hv with rfl | rfl | rfl | rfl | rfl | rfl <;> rfl
theorem ecells_len (E : Edg) : (ecells E).length = 6 := rfl
theorem Gam.end_cases (x : Gam) : (∃ c : Int, (c != 0) = true ∧ x.code = c ∧ x.endFor = (Edg.zero, c)) ∨ (x.ok = true ∧ x.over = false ∧ x.code = 0) := by
 cases hk : x.ok with
 | false => exact .inl ⟨1, rfl, Gam.code1 hk, Gam.end1 hk⟩
 | true =>
  cases ho : x.over with
  | true => exact .inl ⟨10, rfl, Gam.code2 hk ho, Gam.end2 hk ho⟩
  | false => exact .inr ⟨rfl, rfl, Gam.code3 hk ho⟩
def EndPost (x : Gam) (w : World) (e : Ending) (w' : World) : Prop := e = .returned (.tuple #[.agg (ecells x.endFor.1).toArray, .int .i64 x.endFor.2]) ∧ Below w.heap.size w w'
theorem end_post {x : Gam} {w w' : World} {E : Edg} {c : Int} {e : Ending} (h : x.endFor = (E, c)) (he : e = .returned (.tuple #[.agg (ecells E).toArray, .int .i64 c])) (hb : Below w.heap.size w w') : EndPost x w e w' := by
 unfold EndPost
 rw [h]
 exact ⟨he, hb⟩
set_option maxRecDepth 100000 in
set_option maxHeartbeats 8000000 in
theorem specEndFor_any (x : Gam) (p : GaA) (w : World) (ha : x.At p w) (hf : x.fit) :
  Calls Tryz.prog 23 #[.agg (gcells x p).toArray] w (EndPost x w) := by
 obtain ⟨w2, hw2⟩ : ∃ w2, w2 = (w.alloc (.cells (gcells x p).toArray 65)).alloc (.cells #[.int .i64 0, .string ⟨#[]⟩, .string ⟨#[]⟩, .string ⟨#[]⟩, .string ⟨#[]⟩, .bool false] 55) := ⟨_, rfl⟩
 have hb : Below w.heap.size w w2 := by rw [hw2]; exact ((Below.refl _ _).alloc (Nat.le_refl _) _).alloc (by simp) _
 have HG : Hid (GAt w2 w.heap.size x p) := by
  rw [hw2]
  exact Lib.hid ((GAt.new w x p 65 ha).kept ((Below.refl _ _).alloc (Nat.le_refl _) _))
 have VR : Hid (VarAt w2 (w.heap.size + 1) 55 (ecells Edg.zero)) := by
  rw [hw2]
  have := VarAt.new (w.alloc (.cells (gcells x p).toArray 65)) 55 (ecells Edg.zero)
  simp only [World.size_alloc] at this
  exact Lib.hid this
 have HCD : Hid (∀ W, GAt W w.heap.size x p → Calls Tryz.prog 72 #[.pointer (some ⟨w.heap.size, 0, none⟩)] W fun e w' => e = .returned (.int .i64 x.code) ∧ Below W.heap.size W w') := Lib.hid (fun W h => l27Code_any x p w.heap.size W h hf)
 have HF := Lib.hid hf
 have HW2 := Lib.hid hw2
 clear ha hf hw2
 obtain ⟨cs, hcs⟩ : ∃ cs, cs = gcells x p := ⟨_, rfl⟩
 rw [← hcs]
 rw [← hcs] at HW2
 clear hcs
 rcases x.end_cases with ⟨c, hc0, hcc, hce⟩ | ⟨hk, ho, hcc⟩
 ·rw [hcc] at HCD
  have HX := Lib.hid hce
  clear hcc hce
  go_enter Tryz.func23, Tryz.ntmps23
  go_upto_region 1 with fail
  rw [← HW2.out]
  clear HW2
  go_wp2_with fail
  refine (HCD.out _ HG.out).mono ?_
  rintro e w3 ⟨rfl, hd⟩
  replace hb := hb.trans (hd.mono hb.size)
  replace VR := Lib.hid (VR.out.kept hd)
  clear hd
  clear HCD HG
  have u0 := VR.out.cell (i := 0) rfl
  have f0 := VR.out.free 0
  have u1 := VR.out.cell (i := 1) rfl
  have f1 := VR.out.free 1
  have u2 := VR.out.cell (i := 2) rfl
  have f2 := VR.out.free 2
  have u3 := VR.out.cell (i := 3) rfl
  have f3 := VR.out.free 3
  have u4 := VR.out.cell (i := 4) rfl
  have f4 := VR.out.free 4
  have u5 := VR.out.cell (i := 5) rfl
  have f5 := VR.out.free 5
  obtain ⟨o9, k9⟩ := VR.out.put (ecells (Edg.zero)) rfl
  have hb9 := hb.grown k9 hb.size (fun q h => by have e2 : w.heap.size + 1 = q := Option.some.inj h; omega)
  have HV := Lib.hid (run_loadVar_mid (w3.setCells (w.heap.size + 1) 0 (ecells (Edg.zero))) (w.heap.size + 1) 0 55 (ecells (Edg.zero)) _ o9.range Tryz.underlying55 rfl (size_end (Edg.zero)))
  clear k9 o9 VR
  go_wp2
  refine bodyPost_ret (results_cell_tmp_var Tryz.results23 _ _ _ _ rfl HV.out) rfl ?_
  exact end_post HX.out rfl hb9
 ·rw [hcc] at HCD
  have HFI := Lib.hid (Gam.fine hk)
  have HY3 := Lib.hid (fun h2 => Gam.end3 (x := x) hk ho h2)
  have HY4 := Lib.hid (fun h2 => Gam.end4 (x := x) hk ho h2)
  clear hk ho hcc
  go_enter Tryz.func23, Tryz.ntmps23
  go_upto_region 1 with fail
  rw [← HW2.out]
  clear HW2
  go_wp2_with fail
  refine (HCD.out _ HG.out).mono ?_
  rintro e w3 ⟨rfl, hd⟩
  replace hb := hb.trans (hd.mono hb.size)
  replace HG := Lib.hid (HG.out.kept hd)
  replace VR := Lib.hid (VR.out.kept hd)
  clear hd
  clear HCD
  go_upto_region 4 with fail
  have hp := HFI.out.player
  obtain ⟨rb, ro, hra, hrc⟩ := (HG.out.at_.2.1).open (show x.player.toNat < x.racks.length by have := HFI.out.racks; omega)
  have r0 : w3.cell? ⟨rb, ro + 0, none⟩ = some (.string (x.rack 0)) := words_cell hrc (show 0 < x.racks.length by have := HFI.out.racks; omega)
  have r1 : w3.cell? ⟨rb, ro + 1, none⟩ = some (.string (x.rack 1)) := words_cell hrc (show 1 < x.racks.length by have := HFI.out.racks; omega)
  rw [Nat.add_zero] at r0
  have c10 := HG.out.cell (i := 10) rfl
  have c11 := HG.out.cell (i := 11) rfl
  have c12 := HG.out.cell (i := 12) rfl
  have c14 := HG.out.cell (i := 14) rfl
  have c17 := HG.out.cell (i := 17) rfl
  have c19 := HG.out.cell (i := 19) rfl
  rw [hra, HFI.out.racks] at c14
  have HED : Hid (x.edge = ⟨x.board, x.rack x.player.toNat, x.rack (1 - x.player).toNat, decide (x.last.kind = 3)⟩) := Lib.hid rfl
  have HKD : Hid ((x.last.kind == 3) = decide (x.last.kind = 3)) := Lib.hid (by rw [Bool.eq_iff_iff]; simp)
  clear hrc hra
  generalize x.player = pl at *
  obtain rfl | rfl : pl = 0 ∨ pl = 1 := by omega
  ·have hd : Below w3.heap.size w3 w3.drew := (Below.refl _ _).drew
   replace r0 := cell_kept r0 hd
   replace r1 := cell_kept r1 hd
   replace c10 := cell_kept c10 hd
   replace c11 := cell_kept c11 hd
   replace c12 := cell_kept c12 hd
   replace c14 := cell_kept c14 hd
   replace c17 := cell_kept c17 hd
   replace c19 := cell_kept c19 hd
   clear hd
   have HEE : Hid (x.edge = ⟨x.board, x.rack 0, x.rack 1, x.last.kind == 3⟩) := Lib.hid (by rw [HED.out, ← HKD.out]; rfl)
   clear HED HKD
   have hs0 : IntKind.i64.wrap (1 : Int) = 1 := rfl
   have hs1 : IntKind.i64.wrap (0 : Int) = 0 := rfl
   go_region_held3 (fun w' => w'.cell? ⟨rb, ro, none⟩ = some (.string (x.rack 0)) ∧ w'.cell? ⟨rb, ro + 1, none⟩ = some (.string (x.rack 1)) ∧ w'.cell? ⟨w.heap.size, 10, none⟩ = some (.int .i64 x.board.size) ∧ w'.cell? ⟨w.heap.size, 11, none⟩ = some (.string x.board.premium) ∧ w'.cell? ⟨w.heap.size, 12, none⟩ = some (.string x.board.cells) ∧ w'.cell? ⟨w.heap.size, 14, none⟩ = some (.slice (some ⟨rb, ro, none⟩) 2 p.racks.c) ∧ w'.cell? ⟨w.heap.size, 17, none⟩ = some (.int .i64 0) ∧ w'.cell? ⟨w.heap.size, 19, none⟩ = some (.int .i64 x.last.kind))
    (first | exact ⟨r0, r1, c10, c11, c12, c14, c17, c19⟩ | exact ⟨cell_alloc r0 _, cell_alloc r1 _, cell_alloc c10 _, cell_alloc c11 _, cell_alloc c12 _, cell_alloc c14 _, cell_alloc c17 _, cell_alloc c19 _⟩)
    (fail)
   all_goals
    clear r0 r1 c10 c11 c12 c14 c17 c19 hs0 hs1
    have hd : Below w3.heap.size w3 (w3.alloc (.cells (ecells (⟨x.board, x.rack 0, x.rack 1, x.last.kind == 3⟩)).toArray 55)).drew := ((Below.refl _ _).alloc (Nat.le_refl _) _).drew
    have VE := Lib.hid ((VarAt.new w3 55 (ecells (⟨x.board, x.rack 0, x.rack 1, x.last.kind == 3⟩))).kept (Below.refl _ _).drew)
    replace hb := hb.trans (hd.mono hb.size)
    replace HG := Lib.hid (HG.out.kept hd)
    replace VR := Lib.hid (VR.out.kept hd)
    clear hd
    have c13 := HG.out.cell (i := 13) rfl
    change Exit.then _ _ _ _ (w3.alloc (.cells (ecells (⟨x.board, x.rack 0, x.rack 1, x.last.kind == 3⟩)).toArray 55)).drew
    generalize (w3.alloc (.cells (ecells (⟨x.board, x.rack 0, x.rack 1, x.last.kind == 3⟩)).toArray 55)).drew = w4 at *
    generalize w3.heap.size = xe at *
    have HLK : Hid (∀ W, VarAt W xe 55 (ecells (⟨x.board, x.rack 0, x.rack 1, x.last.kind == 3⟩)) → Calls Tryz.prog 73 #[.pointer (some ⟨xe, 0, none⟩)] W fun e w' => e = .returned (.bool (decide ((x.rack 0).size ≠ 0) && decide ((x.rack 1).size ≠ 0))) ∧ Below W.heap.size W w') := Lib.hid (fun W h => l22Ok_any (⟨x.board, x.rack 0, x.rack 1, x.last.kind == 3⟩) xe W h HF.out.2.1 HFI.out.board (HFI.out.rack 0 (by omega)) (HFI.out.rack 1 (by omega)) (by have h2 := rackOk_len (HFI.out.rack 0 (by omega)); simp at h2; show (x.rack 0).size ≤ _; omega) (by have h2 := rackOk_len (HFI.out.rack 1 (by omega)); simp at h2; show (x.rack 1).size ≤ _; omega))
    by_cases hb0 : x.bag.size = 0
    ·have e1 := text_nil hb0
     go_wp2_with fail
     refine (HLK.out _ VE.out).mono ?_
     rintro e w5 ⟨rfl, hd⟩
     replace hb := hb.trans (hd.mono hb.size)
     replace c13 := cell_kept c13 hd
     replace VE := Lib.hid (VE.out.kept hd)
     replace VR := Lib.hid (VR.out.kept hd)
     replace HG := Lib.hid (HG.out.kept hd)
     clear hd
     clear HLK
     cases hq : (decide ((x.rack 0).size ≠ 0) && decide ((x.rack 1).size ≠ 0)) with
     | true =>
      have HX : Hid (x.endFor = (⟨x.board, x.rack 0, x.rack 1, x.last.kind == 3⟩, 0)) := Lib.hid (by
       rw [Bool.and_eq_true, decide_eq_true_eq, decide_eq_true_eq] at hq
       rw [← HEE.out]
       exact HY3.out ⟨hb0, hq.1, hq.2⟩)
      clear hq hb0 c13 e1
      have v0 := VE.out.cell (i := 0) rfl
      have v1 := VE.out.cell (i := 1) rfl
      have v2 := VE.out.cell (i := 2) rfl
      have v3 := VE.out.cell (i := 3) rfl
      have v4 := VE.out.cell (i := 4) rfl
      have v5 := VE.out.cell (i := 5) rfl
      clear VE HG
      have u0 := VR.out.cell (i := 0) rfl
      have f0 := VR.out.free 0
      have u1 := VR.out.cell (i := 1) rfl
      have f1 := VR.out.free 1
      have u2 := VR.out.cell (i := 2) rfl
      have f2 := VR.out.free 2
      have u3 := VR.out.cell (i := 3) rfl
      have f3 := VR.out.free 3
      have u4 := VR.out.cell (i := 4) rfl
      have f4 := VR.out.free 4
      have u5 := VR.out.cell (i := 5) rfl
      have f5 := VR.out.free 5
      obtain ⟨o9, k9⟩ := VR.out.put (ecells (⟨x.board, x.rack 0, x.rack 1, x.last.kind == 3⟩)) rfl
      have hb9 := hb.grown k9 hb.size (fun q h => by have e2 : w.heap.size + 1 = q := Option.some.inj h; omega)
      have HV := Lib.hid (run_loadVar_mid (w5.setCells (w.heap.size + 1) 0 (ecells (⟨x.board, x.rack 0, x.rack 1, x.last.kind == 3⟩))) (w.heap.size + 1) 0 55 (ecells (⟨x.board, x.rack 0, x.rack 1, x.last.kind == 3⟩)) _ o9.range Tryz.underlying55 rfl (size_end (⟨x.board, x.rack 0, x.rack 1, x.last.kind == 3⟩)))
      clear k9 o9 VR
      go_wp2
      refine bodyPost_ret (results_cell_tmp_var Tryz.results23 _ _ _ _ rfl HV.out) rfl ?_
      exact end_post HX.out rfl hb9
     | false =>
      have HX : Hid (x.endFor = (Edg.zero, 6)) := Lib.hid (HY4.out (by
       rintro ⟨_, h1, h2⟩
       rw [Bool.and_eq_false_iff, decide_eq_false_iff_not, decide_eq_false_iff_not] at hq
       exact hq.elim (fun h => h h1) (fun h => h h2)))
      clear hq hb0 c13 e1
      clear VE HG
      have u0 := VR.out.cell (i := 0) rfl
      have f0 := VR.out.free 0
      have u1 := VR.out.cell (i := 1) rfl
      have f1 := VR.out.free 1
      have u2 := VR.out.cell (i := 2) rfl
      have f2 := VR.out.free 2
      have u3 := VR.out.cell (i := 3) rfl
      have f3 := VR.out.free 3
      have u4 := VR.out.cell (i := 4) rfl
      have f4 := VR.out.free 4
      have u5 := VR.out.cell (i := 5) rfl
      have f5 := VR.out.free 5
      obtain ⟨o9, k9⟩ := VR.out.put (ecells (Edg.zero)) rfl
      have hb9 := hb.grown k9 hb.size (fun q h => by have e2 : w.heap.size + 1 = q := Option.some.inj h; omega)
      have HV := Lib.hid (run_loadVar_mid (w5.setCells (w.heap.size + 1) 0 (ecells (Edg.zero))) (w.heap.size + 1) 0 55 (ecells (Edg.zero)) _ o9.range Tryz.underlying55 rfl (size_end (Edg.zero)))
      clear k9 o9 VR
      go_wp2
      refine bodyPost_ret (results_cell_tmp_var Tryz.results23 _ _ _ _ rfl HV.out) rfl ?_
      exact end_post HX.out rfl hb9
    ·have HX : Hid (x.endFor = (Edg.zero, 6)) := Lib.hid (HY4.out (fun h => hb0 h.1))
     obtain ⟨e1, f1⟩ := text_some hb0
     clear HLK
     clear VE HG
     have u0 := VR.out.cell (i := 0) rfl
     have f0 := VR.out.free 0
     have u1 := VR.out.cell (i := 1) rfl
     have f1 := VR.out.free 1
     have u2 := VR.out.cell (i := 2) rfl
     have f2 := VR.out.free 2
     have u3 := VR.out.cell (i := 3) rfl
     have f3 := VR.out.free 3
     have u4 := VR.out.cell (i := 4) rfl
     have f4 := VR.out.free 4
     have u5 := VR.out.cell (i := 5) rfl
     have f5 := VR.out.free 5
     obtain ⟨o9, k9⟩ := VR.out.put (ecells (Edg.zero)) rfl
     have hb9 := hb.grown k9 hb.size (fun q h => by have e2 : w.heap.size + 1 = q := Option.some.inj h; omega)
     have HV := Lib.hid (run_loadVar_mid (w4.setCells (w.heap.size + 1) 0 (ecells (Edg.zero))) (w.heap.size + 1) 0 55 (ecells (Edg.zero)) _ o9.range Tryz.underlying55 rfl (size_end (Edg.zero)))
     clear k9 o9 VR
     go_wp2
     refine bodyPost_ret (results_cell_tmp_var Tryz.results23 _ _ _ _ rfl HV.out) rfl ?_
     exact end_post HX.out rfl hb9
  ·have hd : Below w3.heap.size w3 w3.drew := (Below.refl _ _).drew
   replace r0 := cell_kept r0 hd
   replace r1 := cell_kept r1 hd
   replace c10 := cell_kept c10 hd
   replace c11 := cell_kept c11 hd
   replace c12 := cell_kept c12 hd
   replace c14 := cell_kept c14 hd
   replace c17 := cell_kept c17 hd
   replace c19 := cell_kept c19 hd
   clear hd
   have HEE : Hid (x.edge = ⟨x.board, x.rack 1, x.rack 0, x.last.kind == 3⟩) := Lib.hid (by rw [HED.out, ← HKD.out]; rfl)
   clear HED HKD
   have hs0 : IntKind.i64.wrap (1 : Int) = 1 := rfl
   have hs1 : IntKind.i64.wrap (0 : Int) = 0 := rfl
   go_region_held3 (fun w' => w'.cell? ⟨rb, ro, none⟩ = some (.string (x.rack 0)) ∧ w'.cell? ⟨rb, ro + 1, none⟩ = some (.string (x.rack 1)) ∧ w'.cell? ⟨w.heap.size, 10, none⟩ = some (.int .i64 x.board.size) ∧ w'.cell? ⟨w.heap.size, 11, none⟩ = some (.string x.board.premium) ∧ w'.cell? ⟨w.heap.size, 12, none⟩ = some (.string x.board.cells) ∧ w'.cell? ⟨w.heap.size, 14, none⟩ = some (.slice (some ⟨rb, ro, none⟩) 2 p.racks.c) ∧ w'.cell? ⟨w.heap.size, 17, none⟩ = some (.int .i64 1) ∧ w'.cell? ⟨w.heap.size, 19, none⟩ = some (.int .i64 x.last.kind))
    (first | exact ⟨r0, r1, c10, c11, c12, c14, c17, c19⟩ | exact ⟨cell_alloc r0 _, cell_alloc r1 _, cell_alloc c10 _, cell_alloc c11 _, cell_alloc c12 _, cell_alloc c14 _, cell_alloc c17 _, cell_alloc c19 _⟩)
    (fail)
   all_goals
    clear r0 r1 c10 c11 c12 c14 c17 c19 hs0 hs1
    have hd : Below w3.heap.size w3 (w3.alloc (.cells (ecells (⟨x.board, x.rack 1, x.rack 0, x.last.kind == 3⟩)).toArray 55)).drew := ((Below.refl _ _).alloc (Nat.le_refl _) _).drew
    have VE := Lib.hid ((VarAt.new w3 55 (ecells (⟨x.board, x.rack 1, x.rack 0, x.last.kind == 3⟩))).kept (Below.refl _ _).drew)
    replace hb := hb.trans (hd.mono hb.size)
    replace HG := Lib.hid (HG.out.kept hd)
    replace VR := Lib.hid (VR.out.kept hd)
    clear hd
    have c13 := HG.out.cell (i := 13) rfl
    change Exit.then _ _ _ _ (w3.alloc (.cells (ecells (⟨x.board, x.rack 1, x.rack 0, x.last.kind == 3⟩)).toArray 55)).drew
    generalize (w3.alloc (.cells (ecells (⟨x.board, x.rack 1, x.rack 0, x.last.kind == 3⟩)).toArray 55)).drew = w4 at *
    generalize w3.heap.size = xe at *
    have HLK : Hid (∀ W, VarAt W xe 55 (ecells (⟨x.board, x.rack 1, x.rack 0, x.last.kind == 3⟩)) → Calls Tryz.prog 73 #[.pointer (some ⟨xe, 0, none⟩)] W fun e w' => e = .returned (.bool (decide ((x.rack 1).size ≠ 0) && decide ((x.rack 0).size ≠ 0))) ∧ Below W.heap.size W w') := Lib.hid (fun W h => l22Ok_any (⟨x.board, x.rack 1, x.rack 0, x.last.kind == 3⟩) xe W h HF.out.2.1 HFI.out.board (HFI.out.rack 1 (by omega)) (HFI.out.rack 0 (by omega)) (by have h2 := rackOk_len (HFI.out.rack 1 (by omega)); simp at h2; show (x.rack 1).size ≤ _; omega) (by have h2 := rackOk_len (HFI.out.rack 0 (by omega)); simp at h2; show (x.rack 0).size ≤ _; omega))
    by_cases hb0 : x.bag.size = 0
    ·have e1 := text_nil hb0
     go_wp2_with fail
     refine (HLK.out _ VE.out).mono ?_
     rintro e w5 ⟨rfl, hd⟩
     replace hb := hb.trans (hd.mono hb.size)
     replace c13 := cell_kept c13 hd
     replace VE := Lib.hid (VE.out.kept hd)
     replace VR := Lib.hid (VR.out.kept hd)
     replace HG := Lib.hid (HG.out.kept hd)
     clear hd
     clear HLK
     cases hq : (decide ((x.rack 1).size ≠ 0) && decide ((x.rack 0).size ≠ 0)) with
     | true =>
      have HX : Hid (x.endFor = (⟨x.board, x.rack 1, x.rack 0, x.last.kind == 3⟩, 0)) := Lib.hid (by
       rw [Bool.and_eq_true, decide_eq_true_eq, decide_eq_true_eq] at hq
       rw [← HEE.out]
       exact HY3.out ⟨hb0, hq.1, hq.2⟩)
      clear hq hb0 c13 e1
      have v0 := VE.out.cell (i := 0) rfl
      have v1 := VE.out.cell (i := 1) rfl
      have v2 := VE.out.cell (i := 2) rfl
      have v3 := VE.out.cell (i := 3) rfl
      have v4 := VE.out.cell (i := 4) rfl
      have v5 := VE.out.cell (i := 5) rfl
      clear VE HG
      have u0 := VR.out.cell (i := 0) rfl
      have f0 := VR.out.free 0
      have u1 := VR.out.cell (i := 1) rfl
      have f1 := VR.out.free 1
      have u2 := VR.out.cell (i := 2) rfl
      have f2 := VR.out.free 2
      have u3 := VR.out.cell (i := 3) rfl
      have f3 := VR.out.free 3
      have u4 := VR.out.cell (i := 4) rfl
      have f4 := VR.out.free 4
      have u5 := VR.out.cell (i := 5) rfl
      have f5 := VR.out.free 5
      obtain ⟨o9, k9⟩ := VR.out.put (ecells (⟨x.board, x.rack 1, x.rack 0, x.last.kind == 3⟩)) rfl
      have hb9 := hb.grown k9 hb.size (fun q h => by have e2 : w.heap.size + 1 = q := Option.some.inj h; omega)
      have HV := Lib.hid (run_loadVar_mid (w5.setCells (w.heap.size + 1) 0 (ecells (⟨x.board, x.rack 1, x.rack 0, x.last.kind == 3⟩))) (w.heap.size + 1) 0 55 (ecells (⟨x.board, x.rack 1, x.rack 0, x.last.kind == 3⟩)) _ o9.range Tryz.underlying55 rfl (size_end (⟨x.board, x.rack 1, x.rack 0, x.last.kind == 3⟩)))
      clear k9 o9 VR
      go_wp2
      refine bodyPost_ret (results_cell_tmp_var Tryz.results23 _ _ _ _ rfl HV.out) rfl ?_
      exact end_post HX.out rfl hb9
     | false =>
      have HX : Hid (x.endFor = (Edg.zero, 6)) := Lib.hid (HY4.out (by
       rintro ⟨_, h1, h2⟩
       rw [Bool.and_eq_false_iff, decide_eq_false_iff_not, decide_eq_false_iff_not] at hq
       exact hq.elim (fun h => h h1) (fun h => h h2)))
      clear hq hb0 c13 e1
      clear VE HG
      have u0 := VR.out.cell (i := 0) rfl
      have f0 := VR.out.free 0
      have u1 := VR.out.cell (i := 1) rfl
      have f1 := VR.out.free 1
      have u2 := VR.out.cell (i := 2) rfl
      have f2 := VR.out.free 2
      have u3 := VR.out.cell (i := 3) rfl
      have f3 := VR.out.free 3
      have u4 := VR.out.cell (i := 4) rfl
      have f4 := VR.out.free 4
      have u5 := VR.out.cell (i := 5) rfl
      have f5 := VR.out.free 5
      obtain ⟨o9, k9⟩ := VR.out.put (ecells (Edg.zero)) rfl
      have hb9 := hb.grown k9 hb.size (fun q h => by have e2 : w.heap.size + 1 = q := Option.some.inj h; omega)
      have HV := Lib.hid (run_loadVar_mid (w5.setCells (w.heap.size + 1) 0 (ecells (Edg.zero))) (w.heap.size + 1) 0 55 (ecells (Edg.zero)) _ o9.range Tryz.underlying55 rfl (size_end (Edg.zero)))
      clear k9 o9 VR
      go_wp2
      refine bodyPost_ret (results_cell_tmp_var Tryz.results23 _ _ _ _ rfl HV.out) rfl ?_
      exact end_post HX.out rfl hb9
    ·have HX : Hid (x.endFor = (Edg.zero, 6)) := Lib.hid (HY4.out (fun h => hb0 h.1))
     obtain ⟨e1, f1⟩ := text_some hb0
     clear HLK
     clear VE HG
     have u0 := VR.out.cell (i := 0) rfl
     have f0 := VR.out.free 0
     have u1 := VR.out.cell (i := 1) rfl
     have f1 := VR.out.free 1
     have u2 := VR.out.cell (i := 2) rfl
     have f2 := VR.out.free 2
     have u3 := VR.out.cell (i := 3) rfl
     have f3 := VR.out.free 3
     have u4 := VR.out.cell (i := 4) rfl
     have f4 := VR.out.free 4
     have u5 := VR.out.cell (i := 5) rfl
     have f5 := VR.out.free 5
     obtain ⟨o9, k9⟩ := VR.out.put (ecells (Edg.zero)) rfl
     have hb9 := hb.grown k9 hb.size (fun q h => by have e2 : w.heap.size + 1 = q := Option.some.inj h; omega)
     have HV := Lib.hid (run_loadVar_mid (w4.setCells (w.heap.size + 1) 0 (ecells (Edg.zero))) (w.heap.size + 1) 0 55 (ecells (Edg.zero)) _ o9.range Tryz.underlying55 rfl (size_end (Edg.zero)))
     clear k9 o9 VR
     go_wp2
     refine bodyPost_ret (results_cell_tmp_var Tryz.results23 _ _ _ _ rfl HV.out) rfl ?_
     exact end_post HX.out rfl hb9
set_option maxRecDepth 100000 in
set_option maxHeartbeats 8000000 in
theorem implEndFor_any (x : Gam) (p : GaA) (w : World) (ha : x.At p w) (hf : x.fit) (htz : x.setup.tiles.letters.size ≤ 1048576) (hwz : x.last.play.word.size ≤ 1048576) (hE : CEnv w) (hL : EnvL w) :
  Calls Tryz.prog 25 #[.agg (gcells x p).toArray] w (EndPost x w) := by
 obtain ⟨w2, hw2⟩ : ∃ w2, w2 = (w.alloc (.cells (gcells x p).toArray 65)).alloc (.cells #[.int .i64 0, .string ⟨#[]⟩, .string ⟨#[]⟩, .string ⟨#[]⟩, .string ⟨#[]⟩, .bool false] 55) := ⟨_, rfl⟩
 have hb : Below w.heap.size w w2 := by rw [hw2]; exact ((Below.refl _ _).alloc (Nat.le_refl _) _).alloc (by simp) _
 have HG : Hid (GAt w2 w.heap.size x p) := by
  rw [hw2]
  exact Lib.hid ((GAt.new w x p 65 ha).kept ((Below.refl _ _).alloc (Nat.le_refl _) _))
 have VR : Hid (VarAt w2 (w.heap.size + 1) 55 (ecells Edg.zero)) := by
  rw [hw2]
  have := VarAt.new (w.alloc (.cells (gcells x p).toArray 65)) 55 (ecells Edg.zero)
  simp only [World.size_alloc] at this
  exact Lib.hid this
 have HE := Lib.hid (hE.kept hb)
 have HL := Lib.hid (hL.kept hb)
 have HSZ := Lib.hid (size_game x p)
 have HRA : Hid (w2.rangeAt w.heap.size 0 (gcells x p)) := Lib.hid HG.out.cells
 have HCD : Hid (∀ W, x.At p W → CEnv W → EnvL W → Calls Tryz.prog 77 #[.agg (gcells x p).toArray] W fun e w' => e = .returned (.int .i64 x.code) ∧ Below W.heap.size W w') := Lib.hid (fun W h h2 h3 => runCode_any x p W h hf htz hwz h2 h3)
 have HW2 := Lib.hid hw2
 clear ha hf hw2 hE hL htz hwz
 obtain ⟨cs, hcs⟩ : ∃ cs, cs = gcells x p := ⟨_, rfl⟩
 rw [← hcs]
 rw [← hcs] at HW2 HSZ HRA HCD
 clear hcs
 rcases x.end_cases with ⟨c, hc0, hcc, hce⟩ | ⟨hk, ho, hcc⟩
 ·rw [hcc] at HCD
  have HX := Lib.hid hce
  clear hcc hce
  go_enter Tryz.func25, Tryz.ntmps25
  go_upto_region 1 with fail
  rw [← HW2.out]
  clear HW2
  have rA := HRA.out
  clear HRA
  refine wp_region_list ?_
  refine wpList_load_mid rfl 65 _ rfl w.heap.size 0 rfl cs _ rA Tryz.underlying65 rfl HSZ.out ?_
  clear rA
  go_wp2_with fail
  refine (HCD.out _ HG.out.at_ HE.out HL.out).mono ?_
  rintro e w3 ⟨rfl, hd⟩
  replace hb := hb.trans (hd.mono hb.size)
  replace HG := Lib.hid (HG.out.kept hd)
  replace VR := Lib.hid (VR.out.kept hd)
  clear hd
  clear HCD HE HL HSZ
  clear HG
  have u0 := VR.out.cell (i := 0) rfl
  have f0 := VR.out.free 0
  have u1 := VR.out.cell (i := 1) rfl
  have f1 := VR.out.free 1
  have u2 := VR.out.cell (i := 2) rfl
  have f2 := VR.out.free 2
  have u3 := VR.out.cell (i := 3) rfl
  have f3 := VR.out.free 3
  have u4 := VR.out.cell (i := 4) rfl
  have f4 := VR.out.free 4
  have u5 := VR.out.cell (i := 5) rfl
  have f5 := VR.out.free 5
  obtain ⟨o9, k9⟩ := VR.out.put (ecells (Edg.zero)) rfl
  have hb9 := hb.grown k9 hb.size (fun q h => by have e2 : w.heap.size + 1 = q := Option.some.inj h; omega)
  have HV := Lib.hid (run_loadVar_mid (w3.setCells (w.heap.size + 1) 0 (ecells (Edg.zero))) (w.heap.size + 1) 0 55 (ecells (Edg.zero)) _ o9.range Tryz.underlying55 rfl (size_end (Edg.zero)))
  clear k9 o9 VR
  go_wp2
  refine bodyPost_ret (results_cell_tmp_var Tryz.results25 _ _ _ _ rfl HV.out) rfl ?_
  exact end_post HX.out rfl hb9
 ·rw [hcc] at HCD
  have HFI := Lib.hid (Gam.fine hk)
  have HY3 := Lib.hid (fun h2 => Gam.end3 (x := x) hk ho h2)
  have HY4 := Lib.hid (fun h2 => Gam.end4 (x := x) hk ho h2)
  clear hk ho hcc
  go_enter Tryz.func25, Tryz.ntmps25
  go_upto_region 1 with fail
  rw [← HW2.out]
  clear HW2
  have rA := HRA.out
  clear HRA
  refine wp_region_list ?_
  refine wpList_load_mid rfl 65 _ rfl w.heap.size 0 rfl cs _ rA Tryz.underlying65 rfl HSZ.out ?_
  clear rA
  go_wp2_with fail
  refine (HCD.out _ HG.out.at_ HE.out HL.out).mono ?_
  rintro e w3 ⟨rfl, hd⟩
  replace hb := hb.trans (hd.mono hb.size)
  replace HG := Lib.hid (HG.out.kept hd)
  replace VR := Lib.hid (VR.out.kept hd)
  clear hd
  clear HCD HE HL HSZ
  go_upto_region 4 with fail
  have hp := HFI.out.player
  obtain ⟨rb, ro, hra, hrc⟩ := (HG.out.at_.2.1).open (show x.player.toNat < x.racks.length by have := HFI.out.racks; omega)
  have r0 : w3.cell? ⟨rb, ro + 0, none⟩ = some (.string (x.rack 0)) := words_cell hrc (show 0 < x.racks.length by have := HFI.out.racks; omega)
  have r1 : w3.cell? ⟨rb, ro + 1, none⟩ = some (.string (x.rack 1)) := words_cell hrc (show 1 < x.racks.length by have := HFI.out.racks; omega)
  rw [Nat.add_zero] at r0
  have c10 := HG.out.cell (i := 10) rfl
  have c11 := HG.out.cell (i := 11) rfl
  have c12 := HG.out.cell (i := 12) rfl
  have c14 := HG.out.cell (i := 14) rfl
  have c17 := HG.out.cell (i := 17) rfl
  have c19 := HG.out.cell (i := 19) rfl
  rw [hra, HFI.out.racks] at c14
  have HED : Hid (x.edge = ⟨x.board, x.rack x.player.toNat, x.rack (1 - x.player).toNat, decide (x.last.kind = 3)⟩) := Lib.hid rfl
  have HKD : Hid ((x.last.kind == 3) = decide (x.last.kind = 3)) := Lib.hid (by rw [Bool.eq_iff_iff]; simp)
  clear hrc hra
  generalize x.player = pl at *
  obtain rfl | rfl : pl = 0 ∨ pl = 1 := by omega
  ·have hd : Below w3.heap.size w3 w3.drew := (Below.refl _ _).drew
   replace r0 := cell_kept r0 hd
   replace r1 := cell_kept r1 hd
   replace c10 := cell_kept c10 hd
   replace c11 := cell_kept c11 hd
   replace c12 := cell_kept c12 hd
   replace c14 := cell_kept c14 hd
   replace c17 := cell_kept c17 hd
   replace c19 := cell_kept c19 hd
   clear hd
   have HEE : Hid (x.edge = ⟨x.board, x.rack 0, x.rack 1, x.last.kind == 3⟩) := Lib.hid (by rw [HED.out, ← HKD.out]; rfl)
   clear HED HKD
   have hs0 : IntKind.i64.wrap (1 : Int) = 1 := rfl
   have hs1 : IntKind.i64.wrap (0 : Int) = 0 := rfl
   go_region_held3 (fun w' => w'.cell? ⟨rb, ro, none⟩ = some (.string (x.rack 0)) ∧ w'.cell? ⟨rb, ro + 1, none⟩ = some (.string (x.rack 1)) ∧ w'.cell? ⟨w.heap.size, 10, none⟩ = some (.int .i64 x.board.size) ∧ w'.cell? ⟨w.heap.size, 11, none⟩ = some (.string x.board.premium) ∧ w'.cell? ⟨w.heap.size, 12, none⟩ = some (.string x.board.cells) ∧ w'.cell? ⟨w.heap.size, 14, none⟩ = some (.slice (some ⟨rb, ro, none⟩) 2 p.racks.c) ∧ w'.cell? ⟨w.heap.size, 17, none⟩ = some (.int .i64 0) ∧ w'.cell? ⟨w.heap.size, 19, none⟩ = some (.int .i64 x.last.kind))
    (first | exact ⟨r0, r1, c10, c11, c12, c14, c17, c19⟩ | exact ⟨cell_alloc r0 _, cell_alloc r1 _, cell_alloc c10 _, cell_alloc c11 _, cell_alloc c12 _, cell_alloc c14 _, cell_alloc c17 _, cell_alloc c19 _⟩)
    (fail)
   clear r0 r1 c10 c11 c12 c14 c17 c19 hs0 hs1
   have hd : Below w3.heap.size w3 (w3.alloc (.cells (ecells (⟨x.board, x.rack 0, x.rack 1, x.last.kind == 3⟩)).toArray 55)).drew := ((Below.refl _ _).alloc (Nat.le_refl _) _).drew
   have VE := Lib.hid ((VarAt.new w3 55 (ecells (⟨x.board, x.rack 0, x.rack 1, x.last.kind == 3⟩))).kept (Below.refl _ _).drew)
   replace hb := hb.trans (hd.mono hb.size)
   replace HG := Lib.hid (HG.out.kept hd)
   replace VR := Lib.hid (VR.out.kept hd)
   clear hd
   have c13 := HG.out.cell (i := 13) rfl
   change Exit.then _ _ _ _ (w3.alloc (.cells (ecells (⟨x.board, x.rack 0, x.rack 1, x.last.kind == 3⟩)).toArray 55)).drew
   generalize (w3.alloc (.cells (ecells (⟨x.board, x.rack 0, x.rack 1, x.last.kind == 3⟩)).toArray 55)).drew = w4 at *
   generalize w3.heap.size = xe at *
   have v3 := VE.out.cell (i := 3) (v := .string (x.rack 0)) rfl
   have v4 := VE.out.cell (i := 4) (v := .string (x.rack 1)) rfl
   by_cases hb0 : x.bag.size = 0
   ·have e1 := text_nil hb0
    by_cases hm : (x.rack 0).size = 0
    ·have HX : Hid (x.endFor = (Edg.zero, 6)) := Lib.hid (HY4.out (fun h => h.2.1 hm))
     have e2 := text_nil hm
     clear hm hb0 HEE
     clear VE HG
     have u0 := VR.out.cell (i := 0) rfl
     have f0 := VR.out.free 0
     have u1 := VR.out.cell (i := 1) rfl
     have f1 := VR.out.free 1
     have u2 := VR.out.cell (i := 2) rfl
     have f2 := VR.out.free 2
     have u3 := VR.out.cell (i := 3) rfl
     have f3 := VR.out.free 3
     have u4 := VR.out.cell (i := 4) rfl
     have f4 := VR.out.free 4
     have u5 := VR.out.cell (i := 5) rfl
     have f5 := VR.out.free 5
     obtain ⟨o9, k9⟩ := VR.out.put (ecells (Edg.zero)) rfl
     have hb9 := hb.grown k9 hb.size (fun q h => by have e2 : w.heap.size + 1 = q := Option.some.inj h; omega)
     have HV := Lib.hid (run_loadVar_mid (w4.setCells (w.heap.size + 1) 0 (ecells (Edg.zero))) (w.heap.size + 1) 0 55 (ecells (Edg.zero)) _ o9.range Tryz.underlying55 rfl (size_end (Edg.zero)))
     clear k9 o9 VR
     go_wp2
     refine bodyPost_ret (results_cell_tmp_var Tryz.results25 _ _ _ _ rfl HV.out) rfl ?_
     exact end_post HX.out rfl hb9
    ·obtain ⟨e2, f2⟩ := text_some hm
     by_cases ht : (x.rack 1).size = 0
     ·have HX : Hid (x.endFor = (Edg.zero, 6)) := Lib.hid (HY4.out (fun h => h.2.2 ht))
      have e3 := text_nil ht
      clear hm hb0 ht HEE
      clear VE HG
      have u0 := VR.out.cell (i := 0) rfl
      have f0 := VR.out.free 0
      have u1 := VR.out.cell (i := 1) rfl
      have f1 := VR.out.free 1
      have u2 := VR.out.cell (i := 2) rfl
      have f2 := VR.out.free 2
      have u3 := VR.out.cell (i := 3) rfl
      have f3 := VR.out.free 3
      have u4 := VR.out.cell (i := 4) rfl
      have f4 := VR.out.free 4
      have u5 := VR.out.cell (i := 5) rfl
      have f5 := VR.out.free 5
      obtain ⟨o9, k9⟩ := VR.out.put (ecells (Edg.zero)) rfl
      have hb9 := hb.grown k9 hb.size (fun q h => by have e2 : w.heap.size + 1 = q := Option.some.inj h; omega)
      have HV := Lib.hid (run_loadVar_mid (w4.setCells (w.heap.size + 1) 0 (ecells (Edg.zero))) (w.heap.size + 1) 0 55 (ecells (Edg.zero)) _ o9.range Tryz.underlying55 rfl (size_end (Edg.zero)))
      clear k9 o9 VR
      go_wp2
      refine bodyPost_ret (results_cell_tmp_var Tryz.results25 _ _ _ _ rfl HV.out) rfl ?_
      exact end_post HX.out rfl hb9
     ·have HX : Hid (x.endFor = (⟨x.board, x.rack 0, x.rack 1, x.last.kind == 3⟩, 0)) := Lib.hid (by
       rw [← HEE.out]
       exact HY3.out ⟨hb0, hm, ht⟩)
      obtain ⟨e3, f3x⟩ := text_some ht
      clear hm hb0 ht HEE v3 v4
      have v0 := VE.out.cell (i := 0) rfl
      have v1 := VE.out.cell (i := 1) rfl
      have v2 := VE.out.cell (i := 2) rfl
      have v3 := VE.out.cell (i := 3) rfl
      have v4 := VE.out.cell (i := 4) rfl
      have v5 := VE.out.cell (i := 5) rfl
      clear VE HG
      have u0 := VR.out.cell (i := 0) rfl
      have f0 := VR.out.free 0
      have u1 := VR.out.cell (i := 1) rfl
      have f1 := VR.out.free 1
      have u2 := VR.out.cell (i := 2) rfl
      have f2 := VR.out.free 2
      have u3 := VR.out.cell (i := 3) rfl
      have f3 := VR.out.free 3
      have u4 := VR.out.cell (i := 4) rfl
      have f4 := VR.out.free 4
      have u5 := VR.out.cell (i := 5) rfl
      have f5 := VR.out.free 5
      obtain ⟨o9, k9⟩ := VR.out.put (ecells (⟨x.board, x.rack 0, x.rack 1, x.last.kind == 3⟩)) rfl
      have hb9 := hb.grown k9 hb.size (fun q h => by have e2 : w.heap.size + 1 = q := Option.some.inj h; omega)
      have HV := Lib.hid (run_loadVar_mid (w4.setCells (w.heap.size + 1) 0 (ecells (⟨x.board, x.rack 0, x.rack 1, x.last.kind == 3⟩))) (w.heap.size + 1) 0 55 (ecells (⟨x.board, x.rack 0, x.rack 1, x.last.kind == 3⟩)) _ o9.range Tryz.underlying55 rfl (size_end (⟨x.board, x.rack 0, x.rack 1, x.last.kind == 3⟩)))
      clear k9 o9 VR
      go_wp2
      refine bodyPost_ret (results_cell_tmp_var Tryz.results25 _ _ _ _ rfl HV.out) rfl ?_
      exact end_post HX.out rfl hb9
   ·have HX : Hid (x.endFor = (Edg.zero, 6)) := Lib.hid (HY4.out (fun h => hb0 h.1))
    obtain ⟨e1, f1x⟩ := text_some hb0
    clear v3 v4 HEE
    clear VE HG
    have u0 := VR.out.cell (i := 0) rfl
    have f0 := VR.out.free 0
    have u1 := VR.out.cell (i := 1) rfl
    have f1 := VR.out.free 1
    have u2 := VR.out.cell (i := 2) rfl
    have f2 := VR.out.free 2
    have u3 := VR.out.cell (i := 3) rfl
    have f3 := VR.out.free 3
    have u4 := VR.out.cell (i := 4) rfl
    have f4 := VR.out.free 4
    have u5 := VR.out.cell (i := 5) rfl
    have f5 := VR.out.free 5
    obtain ⟨o9, k9⟩ := VR.out.put (ecells (Edg.zero)) rfl
    have hb9 := hb.grown k9 hb.size (fun q h => by have e2 : w.heap.size + 1 = q := Option.some.inj h; omega)
    have HV := Lib.hid (run_loadVar_mid (w4.setCells (w.heap.size + 1) 0 (ecells (Edg.zero))) (w.heap.size + 1) 0 55 (ecells (Edg.zero)) _ o9.range Tryz.underlying55 rfl (size_end (Edg.zero)))
    clear k9 o9 VR
    go_wp2
    refine bodyPost_ret (results_cell_tmp_var Tryz.results25 _ _ _ _ rfl HV.out) rfl ?_
    exact end_post HX.out rfl hb9
  ·have hd : Below w3.heap.size w3 w3.drew := (Below.refl _ _).drew
   replace r0 := cell_kept r0 hd
   replace r1 := cell_kept r1 hd
   replace c10 := cell_kept c10 hd
   replace c11 := cell_kept c11 hd
   replace c12 := cell_kept c12 hd
   replace c14 := cell_kept c14 hd
   replace c17 := cell_kept c17 hd
   replace c19 := cell_kept c19 hd
   clear hd
   have HEE : Hid (x.edge = ⟨x.board, x.rack 1, x.rack 0, x.last.kind == 3⟩) := Lib.hid (by rw [HED.out, ← HKD.out]; rfl)
   clear HED HKD
   have hs0 : IntKind.i64.wrap (1 : Int) = 1 := rfl
   have hs1 : IntKind.i64.wrap (0 : Int) = 0 := rfl
   go_region_held3 (fun w' => w'.cell? ⟨rb, ro, none⟩ = some (.string (x.rack 0)) ∧ w'.cell? ⟨rb, ro + 1, none⟩ = some (.string (x.rack 1)) ∧ w'.cell? ⟨w.heap.size, 10, none⟩ = some (.int .i64 x.board.size) ∧ w'.cell? ⟨w.heap.size, 11, none⟩ = some (.string x.board.premium) ∧ w'.cell? ⟨w.heap.size, 12, none⟩ = some (.string x.board.cells) ∧ w'.cell? ⟨w.heap.size, 14, none⟩ = some (.slice (some ⟨rb, ro, none⟩) 2 p.racks.c) ∧ w'.cell? ⟨w.heap.size, 17, none⟩ = some (.int .i64 1) ∧ w'.cell? ⟨w.heap.size, 19, none⟩ = some (.int .i64 x.last.kind))
    (first | exact ⟨r0, r1, c10, c11, c12, c14, c17, c19⟩ | exact ⟨cell_alloc r0 _, cell_alloc r1 _, cell_alloc c10 _, cell_alloc c11 _, cell_alloc c12 _, cell_alloc c14 _, cell_alloc c17 _, cell_alloc c19 _⟩)
    (fail)
   clear r0 r1 c10 c11 c12 c14 c17 c19 hs0 hs1
   have hd : Below w3.heap.size w3 (w3.alloc (.cells (ecells (⟨x.board, x.rack 1, x.rack 0, x.last.kind == 3⟩)).toArray 55)).drew := ((Below.refl _ _).alloc (Nat.le_refl _) _).drew
   have VE := Lib.hid ((VarAt.new w3 55 (ecells (⟨x.board, x.rack 1, x.rack 0, x.last.kind == 3⟩))).kept (Below.refl _ _).drew)
   replace hb := hb.trans (hd.mono hb.size)
   replace HG := Lib.hid (HG.out.kept hd)
   replace VR := Lib.hid (VR.out.kept hd)
   clear hd
   have c13 := HG.out.cell (i := 13) rfl
   change Exit.then _ _ _ _ (w3.alloc (.cells (ecells (⟨x.board, x.rack 1, x.rack 0, x.last.kind == 3⟩)).toArray 55)).drew
   generalize (w3.alloc (.cells (ecells (⟨x.board, x.rack 1, x.rack 0, x.last.kind == 3⟩)).toArray 55)).drew = w4 at *
   generalize w3.heap.size = xe at *
   have v3 := VE.out.cell (i := 3) (v := .string (x.rack 1)) rfl
   have v4 := VE.out.cell (i := 4) (v := .string (x.rack 0)) rfl
   by_cases hb0 : x.bag.size = 0
   ·have e1 := text_nil hb0
    by_cases hm : (x.rack 1).size = 0
    ·have HX : Hid (x.endFor = (Edg.zero, 6)) := Lib.hid (HY4.out (fun h => h.2.1 hm))
     have e2 := text_nil hm
     clear hm hb0 HEE
     clear VE HG
     have u0 := VR.out.cell (i := 0) rfl
     have f0 := VR.out.free 0
     have u1 := VR.out.cell (i := 1) rfl
     have f1 := VR.out.free 1
     have u2 := VR.out.cell (i := 2) rfl
     have f2 := VR.out.free 2
     have u3 := VR.out.cell (i := 3) rfl
     have f3 := VR.out.free 3
     have u4 := VR.out.cell (i := 4) rfl
     have f4 := VR.out.free 4
     have u5 := VR.out.cell (i := 5) rfl
     have f5 := VR.out.free 5
     obtain ⟨o9, k9⟩ := VR.out.put (ecells (Edg.zero)) rfl
     have hb9 := hb.grown k9 hb.size (fun q h => by have e2 : w.heap.size + 1 = q := Option.some.inj h; omega)
     have HV := Lib.hid (run_loadVar_mid (w4.setCells (w.heap.size + 1) 0 (ecells (Edg.zero))) (w.heap.size + 1) 0 55 (ecells (Edg.zero)) _ o9.range Tryz.underlying55 rfl (size_end (Edg.zero)))
     clear k9 o9 VR
     go_wp2
     refine bodyPost_ret (results_cell_tmp_var Tryz.results25 _ _ _ _ rfl HV.out) rfl ?_
     exact end_post HX.out rfl hb9
    ·obtain ⟨e2, f2⟩ := text_some hm
     by_cases ht : (x.rack 0).size = 0
     ·have HX : Hid (x.endFor = (Edg.zero, 6)) := Lib.hid (HY4.out (fun h => h.2.2 ht))
      have e3 := text_nil ht
      clear hm hb0 ht HEE
      clear VE HG
      have u0 := VR.out.cell (i := 0) rfl
      have f0 := VR.out.free 0
      have u1 := VR.out.cell (i := 1) rfl
      have f1 := VR.out.free 1
      have u2 := VR.out.cell (i := 2) rfl
      have f2 := VR.out.free 2
      have u3 := VR.out.cell (i := 3) rfl
      have f3 := VR.out.free 3
      have u4 := VR.out.cell (i := 4) rfl
      have f4 := VR.out.free 4
      have u5 := VR.out.cell (i := 5) rfl
      have f5 := VR.out.free 5
      obtain ⟨o9, k9⟩ := VR.out.put (ecells (Edg.zero)) rfl
      have hb9 := hb.grown k9 hb.size (fun q h => by have e2 : w.heap.size + 1 = q := Option.some.inj h; omega)
      have HV := Lib.hid (run_loadVar_mid (w4.setCells (w.heap.size + 1) 0 (ecells (Edg.zero))) (w.heap.size + 1) 0 55 (ecells (Edg.zero)) _ o9.range Tryz.underlying55 rfl (size_end (Edg.zero)))
      clear k9 o9 VR
      go_wp2
      refine bodyPost_ret (results_cell_tmp_var Tryz.results25 _ _ _ _ rfl HV.out) rfl ?_
      exact end_post HX.out rfl hb9
     ·have HX : Hid (x.endFor = (⟨x.board, x.rack 1, x.rack 0, x.last.kind == 3⟩, 0)) := Lib.hid (by
       rw [← HEE.out]
       exact HY3.out ⟨hb0, hm, ht⟩)
      obtain ⟨e3, f3x⟩ := text_some ht
      clear hm hb0 ht HEE v3 v4
      have v0 := VE.out.cell (i := 0) rfl
      have v1 := VE.out.cell (i := 1) rfl
      have v2 := VE.out.cell (i := 2) rfl
      have v3 := VE.out.cell (i := 3) rfl
      have v4 := VE.out.cell (i := 4) rfl
      have v5 := VE.out.cell (i := 5) rfl
      clear VE HG
      have u0 := VR.out.cell (i := 0) rfl
      have f0 := VR.out.free 0
      have u1 := VR.out.cell (i := 1) rfl
      have f1 := VR.out.free 1
      have u2 := VR.out.cell (i := 2) rfl
      have f2 := VR.out.free 2
      have u3 := VR.out.cell (i := 3) rfl
      have f3 := VR.out.free 3
      have u4 := VR.out.cell (i := 4) rfl
      have f4 := VR.out.free 4
      have u5 := VR.out.cell (i := 5) rfl
      have f5 := VR.out.free 5
      obtain ⟨o9, k9⟩ := VR.out.put (ecells (⟨x.board, x.rack 1, x.rack 0, x.last.kind == 3⟩)) rfl
      have hb9 := hb.grown k9 hb.size (fun q h => by have e2 : w.heap.size + 1 = q := Option.some.inj h; omega)
      have HV := Lib.hid (run_loadVar_mid (w4.setCells (w.heap.size + 1) 0 (ecells (⟨x.board, x.rack 1, x.rack 0, x.last.kind == 3⟩))) (w.heap.size + 1) 0 55 (ecells (⟨x.board, x.rack 1, x.rack 0, x.last.kind == 3⟩)) _ o9.range Tryz.underlying55 rfl (size_end (⟨x.board, x.rack 1, x.rack 0, x.last.kind == 3⟩)))
      clear k9 o9 VR
      go_wp2
      refine bodyPost_ret (results_cell_tmp_var Tryz.results25 _ _ _ _ rfl HV.out) rfl ?_
      exact end_post HX.out rfl hb9
   ·have HX : Hid (x.endFor = (Edg.zero, 6)) := Lib.hid (HY4.out (fun h => hb0 h.1))
    obtain ⟨e1, f1x⟩ := text_some hb0
    clear v3 v4 HEE
    clear VE HG
    have u0 := VR.out.cell (i := 0) rfl
    have f0 := VR.out.free 0
    have u1 := VR.out.cell (i := 1) rfl
    have f1 := VR.out.free 1
    have u2 := VR.out.cell (i := 2) rfl
    have f2 := VR.out.free 2
    have u3 := VR.out.cell (i := 3) rfl
    have f3 := VR.out.free 3
    have u4 := VR.out.cell (i := 4) rfl
    have f4 := VR.out.free 4
    have u5 := VR.out.cell (i := 5) rfl
    have f5 := VR.out.free 5
    obtain ⟨o9, k9⟩ := VR.out.put (ecells (Edg.zero)) rfl
    have hb9 := hb.grown k9 hb.size (fun q h => by have e2 : w.heap.size + 1 = q := Option.some.inj h; omega)
    have HV := Lib.hid (run_loadVar_mid (w4.setCells (w.heap.size + 1) 0 (ecells (Edg.zero))) (w.heap.size + 1) 0 55 (ecells (Edg.zero)) _ o9.range Tryz.underlying55 rfl (size_end (Edg.zero)))
    clear k9 o9 VR
    go_wp2
    refine bodyPost_ret (results_cell_tmp_var Tryz.results25 _ _ _ _ rfl HV.out) rfl ?_
    exact end_post HX.out rfl hb9
end Go.Proofs.YtofcampipllegaaGreatDoor
