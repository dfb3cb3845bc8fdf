/- Contracts: the statements' own functions of Verdict (eq, mark, held). No condition but that lengths are small. -/
import Derived.Test.YtofcampipllegaaGreatDoorGmW
namespace Go.Proofs.YtofcampipllegaaGreatDoor
open Go.ChangeShapes Go.WideShapes Go.ChangeAt Go.RowKit Go.Sort

structure Vdt where
 words : List ByteArray
 wrong : List ByteArray
 upheld : Bool
 points : Int
/-- where its rows lie -/
structure VdA where
 words : Rwa
 wrong : Rwa
def vcells (v : Vdt) (q : VdA) : List Value := [.slice q.words.a v.words.length q.words.c, .slice q.wrong.a v.wrong.length q.wrong.c, .bool v.upheld, .int .i64 v.points]
def vzero : List Value := [.slice none 0 0, .slice none 0 0, .bool false, .int .i64 0]
def Vdt.zero : Vdt := ⟨[], [], false, 0⟩
theorem size_verdict (v : Vdt) (q : VdA) : (Tryz.prog.info? 81).map (·.size) = some (vcells v q).length := by kernel_rfl
theorem vcells_one (v : Vdt) (q : VdA) : ∀ u ∈ vcells v q, u.oneCell' = true := by
 intro u hu
 simp only [vcells, List.mem_cons, List.not_mem_nil, or_false] at hu
 rcases hu with rfl | rfl | rfl | rfl <;> rfl
def Vdt.At (v : Vdt) (q : VdA) (w : World) : Prop := SliceAt w 1 Tx.enc q.words.a v.words ∧ SliceAt w 1 Tx.enc q.wrong.a v.wrong
theorem Vdt.At.kept {v : Vdt} {q : VdA} {w w' : World} (h : v.At q w) (hb : Below w.heap.size w w') : v.At q w' := ⟨h.1.kept hb, h.2.kept hb⟩
structure Vdt.Z (v : Vdt) (q : VdA) (base : Nat) (w : World) : Prop where
 words : TZ w base q.words.a q.words.c v.words
 wrong : TZ w base q.wrong.a q.wrong.c v.wrong
def Vdt.Off (v : Vdt) (q : VdA) : Prop := offA (effA q.words.a v.words) (effA q.wrong.a v.wrong)
def Vdt.marked (v : Vdt) (c : Int) : Vdt := { v with words := Tx.marks c v.words.length, wrong := Tx.marks (c + v.words.length) v.wrong.length }
def Vdt.effs (v : Vdt) (q : VdA) : List (Option Addr) := [effA q.words.a v.words, effA q.wrong.a v.wrong]
def Vdt.cnt (v : Vdt) : Nat := v.words.length + v.wrong.length
def Vdt.small (v : Vdt) : Prop := v.words.length ≤ 1048576 ∧ v.wrong.length ≤ 1048576
theorem Vdt.Z.kept {v : Vdt} {q : VdA} {base : Nat} {w w' : World} (h : v.Z q base w) (hb : Below w.heap.size w w') : v.Z q base w' := ⟨h.words.kept hb, h.wrong.kept hb⟩
theorem Vdt.Z.at {v : Vdt} {q : VdA} {base : Nat} {w : World} (h : v.Z q base w) : v.At q w := ⟨h.words.at, h.wrong.at⟩
theorem Vdt.Z.wrote {v : Vdt} {q : VdA} {base lo : Nat} {w w' : World} {S : List (Option Addr)} (h : v.Z q base w) (hw : Wrote lo S w w') (ho : ∀ s ∈ S, ∀ t ∈ v.effs q, offA s t) : v.Z q base w' :=
 ⟨h.words.wrote hw (fun s hs => ho s hs _ (by simp [Vdt.effs])), h.wrong.wrote hw (fun s hs => ho s hs _ (by simp [Vdt.effs]))⟩
theorem Vdt.Z.lt {v : Vdt} {q : VdA} {base : Nat} {w : World} (h : v.Z q base w) : ∀ t ∈ v.effs q, ∀ g, t.map (·.block) = some g → base ≤ g ∧ g < w.heap.size := by
 intro t ht
 simp only [Vdt.effs, List.mem_cons, List.not_mem_nil, or_false] at ht
 rcases ht with rfl | rfl
 ·exact h.words.lt
 ·exact h.wrong.lt
set_option maxRecDepth 100000 in
set_option maxHeartbeats 2000000 in
theorem eqVerdict_any (v : Vdt) (p q : VdA) (w : World) (hp : v.At p w) (hq : v.At q w) (hs : v.small) :
  Calls Tryz.prog 43 #[.agg (vcells v p).toArray, .agg (vcells v q).toArray] w fun e w' => e = .returned (.bool true) ∧ Below w.heap.size w w' := by
 have hb : Below w.heap.size w ((w.alloc (.cells (vcells v p).toArray 81)).alloc (.cells (vcells v q).toArray 81)) := ((Below.refl _ _).alloc (Nat.le_refl _) _).alloc (by simp) _
 have V1 := Lib.hid ((VarAt.new w 81 (vcells v p)).kept ((Below.refl _ _).alloc (Nat.le_refl _) (.cells (vcells v q).toArray 81)))
 have V2 := VarAt.new (w.alloc (.cells (vcells v p).toArray 81)) 81 (vcells v q)
 simp only [World.size_alloc] at V2
 replace V2 := Lib.hid V2
 have HE1 : Hid (∀ W, v.At p W → v.At q W → Calls Tryz.prog 38 #[.slice p.words.a v.words.length p.words.c, .slice q.words.a v.words.length q.words.c] W fun e w' => e = .returned (.bool true) ∧ Below W.heap.size W w') := Lib.hid (fun W h h2 => eqStringS_any v.words _ _ _ _ W h.1 h2.1 (by have := hs.1; omega))
 have HE2 : Hid (∀ W, v.At p W → v.At q W → Calls Tryz.prog 38 #[.slice p.wrong.a v.wrong.length p.wrong.c, .slice q.wrong.a v.wrong.length q.wrong.c] W fun e w' => e = .returned (.bool true) ∧ Below W.heap.size W w') := Lib.hid (fun W h h2 => eqStringS_any v.wrong _ _ _ _ W h.2 h2.2 (by have := hs.2; omega))
 have HP := Lib.hid (Vdt.At.kept hp hb)
 have HQ := Lib.hid (Vdt.At.kept hq hb)
 clear hp hq hs
 have k3 : (v.points != v.points) = false := by simp
 go_enter Tryz.func43, Tryz.ntmps43
 go_upto_region 1 with fail
 generalize (w.alloc (.cells (vcells v p).toArray 81)).alloc (.cells (vcells v q).toArray 81) = w1 at *
 have a0 := V1.out.cell (i := 0) rfl
 have b0 := V2.out.cell (i := 0) rfl
 go_wp2_with fail
 refine (HE1.out _ HP.out HQ.out).mono ?_
 rintro e w2 ⟨rfl, hd⟩
 clear a0 b0
 replace HP := Lib.hid (Vdt.At.kept HP.out hd)
 replace HQ := Lib.hid (Vdt.At.kept HQ.out hd)
 replace hb := hb.trans (hd.mono hb.size)
 replace V1 := Lib.hid (V1.out.kept hd)
 replace V2 := Lib.hid (V2.out.kept hd)
 clear hd
 have a1 := V1.out.cell (i := 1) rfl
 have b1 := V2.out.cell (i := 1) rfl
 go_wp2_with fail
 refine (HE2.out _ HP.out HQ.out).mono ?_
 rintro e w3 ⟨rfl, hd⟩
 clear a1 b1 HP HQ HE1 HE2
 replace hb := hb.trans (hd.mono hb.size)
 replace V1 := Lib.hid (V1.out.kept hd)
 replace V2 := Lib.hid (V2.out.kept hd)
 clear hd
 have a2 := V1.out.cell (i := 2) (v := .bool v.upheld) rfl
 have b2 := V2.out.cell (i := 2) (v := .bool v.upheld) rfl
 have a3 := V1.out.cell (i := 3) (v := .int .i64 v.points) rfl
 have b3 := V2.out.cell (i := 3) (v := .int .i64 v.points) rfl
 clear V1 V2
 generalize v.upheld = u at *
 generalize v.points = n at *
 go_wp2
 go_ret
 exact ⟨rfl, hb⟩
set_option maxRecDepth 100000 in
set_option maxHeartbeats 1000000 in
theorem markVerdictZ_any (v : Vdt) (q : VdA) (base : Nat) (w : World) (hz : v.Z q base w) (hA : v.Off q) (hlo : base ≤ w.heap.size) (hsm : v.small) :
  Calls Tryz.prog 44 #[.agg (vcells v q).toArray, .int .i64 1] w fun e w' => e = .returned (.int .i64 (1 + (v.cnt : Nat))) ∧ (v.marked 1).Z q base w' ∧ Wrote base (v.effs q) w w' := by
 obtain ⟨hs1, hs2⟩ := hsm
 have hb : Below w.heap.size w (w.alloc (.cells (vcells v q).toArray 81)) := (Below.refl _ _).alloc (Nat.le_refl _) _
 have V := Lib.hid (VarAt.new w 81 (vcells v q))
 have HOV : Hid (∀ s ∈ v.effs q, offA s (some ⟨w.heap.size, 0, none⟩)) := Lib.hid (fun s hs => off_of_lt (fun g h => (hz.lt s hs g h).2) (fun g h => by cases h; exact Nat.le_refl _))
 have HZ := Lib.hid (hz.kept hb)
 have HA := Lib.hid hA
 have hW := Wrote.of_below (S := []) hb hlo
 have HCN : Hid ((v.cnt : Int) = v.words.length + v.wrong.length) := Lib.hid (by unfold Vdt.cnt; push_cast; rfl)
 clear hz hA
 go_enter Tryz.func44, Tryz.ntmps44
 go_upto_region 1 with fail
 generalize w.alloc (.cells (vcells v q).toArray 81) = w1 at *
 have c0 := V.out.cell (i := 0) rfl
 go_wp2_with fail
 refine (markTZ_any v.words q.words.a q.words.c base 1 _ HZ.out.words (Nat.le_trans hlo hb.size) hs1 (by omega) (by omega)).mono ?_
 rintro e w2 ⟨rfl, h2, hw⟩
 clear c0
 have H1 := Lib.hid h2
 replace V := Lib.hid (V.out.wrote hw (fun s hs => HOV.out s (by rw [List.mem_singleton.1 hs]; simp [Vdt.effs])))
 have H2 := Lib.hid (HZ.out.wrong.wrote hw (fun s hs => by rw [List.mem_singleton.1 hs]; exact HA.out))
 replace hW := hW.trans hw
 clear h2 hw HZ
 have c1 := V.out.cell (i := 1) rfl
 go_wp2_with fail
 refine (markTZ_any v.wrong q.wrong.a q.wrong.c base (1 + v.words.length) _ H2.out (Nat.le_trans hlo hW.size) hs2 (by omega) (by omega)).mono ?_
 rintro e w3 ⟨rfl, h2, hw⟩
 clear c1 H2
 have H2 := Lib.hid h2
 replace H1 := Lib.hid (H1.out.wrote hw (fun s hs => by
  rw [List.mem_singleton.1 hs, effA_len q.words.a (Tx.marks_len 1 v.words.length)]
  exact offA.symm HA.out))
 have HW := Lib.hid (hW.trans hw)
 clear h2 hw hW V
 go_wp2
 go_ret
 refine ⟨?_, ⟨H1.out, H2.out⟩, HW.out⟩
 rw [HCN.out]
 exact congrArg (fun z : Int => Ending.returned (.int .i64 z)) (by omega)
set_option maxRecDepth 100000 in
set_option maxHeartbeats 1000000 in
theorem heldVerdictG_any (v : Vdt) (q : VdA) (w : World) (ha : (v.marked 1).At q w) (hsm : v.small) :
  Calls Tryz.prog 45 #[.agg (vcells v q).toArray, .int .i64 1] w fun e w' => e = .returned (.int .i64 (1 + (v.cnt : Nat))) ∧ Below w.heap.size w w' := by
 obtain ⟨hs1, hs2⟩ := hsm
 have hb : Below w.heap.size w (w.alloc (.cells (vcells v q).toArray 81)) := (Below.refl _ _).alloc (Nat.le_refl _) _
 have V := Lib.hid (VarAt.new w 81 (vcells v q))
 have HA := Lib.hid (Vdt.At.kept ha hb)
 have HCN : Hid ((v.cnt : Int) = v.words.length + v.wrong.length) := Lib.hid (by unfold Vdt.cnt; push_cast; rfl)
 have n1 : ¬ (1 : Int) + (v.words.length : Int) < 0 := by omega
 have n2 : ¬ (1 : Int) + (v.words.length : Int) + (v.wrong.length : Int) < 0 := by omega
 clear ha
 go_enter Tryz.func45, Tryz.ntmps45
 go_upto_region 1 with fail
 generalize w.alloc (.cells (vcells v q).toArray 81) = w1 at *
 have c0 := V.out.cell (i := 0) rfl
 go_wp2_with fail
 refine (heldStringS_any v.words.length q.words.a q.words.c 1 _ HA.out.1 (by omega) (by omega) (by omega)).mono ?_
 rintro e w2 ⟨rfl, hd⟩
 replace HA := Lib.hid (Vdt.At.kept HA.out hd)
 clear c0
 replace hb := hb.trans (hd.mono hb.size)
 replace V := Lib.hid (V.out.kept hd)
 clear hd
 have c1 := V.out.cell (i := 1) rfl
 go_wp2_with fail
 refine (heldStringS_any v.wrong.length q.wrong.a q.wrong.c (1 + v.words.length) _ HA.out.2 (by omega) (by omega) (by omega)).mono ?_
 rintro e w3 ⟨rfl, hd⟩
 replace hb := hb.trans (hd.mono hb.size)
 clear hd c1 HA V
 go_wp2
 go_ret
 refine ⟨?_, hb⟩
 rw [HCN.out]
 exact congrArg (fun z : Int => Ending.returned (.int .i64 z)) (by omega)
end Go.Proofs.YtofcampipllegaaGreatDoor
