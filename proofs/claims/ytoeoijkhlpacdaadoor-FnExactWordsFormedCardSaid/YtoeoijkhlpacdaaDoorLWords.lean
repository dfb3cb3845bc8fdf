/- The statement FnExactWordsFormed: the program's words that a play forms are the reference's. Go's tables of unicode and unicode/utf8 hold what is laid (CEnv). -/
import Derived.Test.YtoeoijkhlpacdaaDoorPlbI
import Derived.Test.YtoeoijkhlpacdaaDoorPlaF
import Derived.Test.YtoeoijkhlpacdaaDoorTStr
import Derived.Test.YtoeoijkhlpacdaaDoorTBoard
import Derived.Test.YtoeoijkhlpacdaaDoorTPlay
namespace Go.Proofs.YtoeoijkhlpacdaaDoor
open Go.ChangeShapes Go.WideShapes Go.ChangeAt Go.RowKit Go.Sort

/-- texts in a row of the call's own, and a code -/
def WP (ms : List ByteArray) (k : Int) (w : World) (e : Ending) (w' : World) : Prop :=
  ∃ a cap, e = .returned (.tuple #[.slice a ms.length cap, .int .i64 k]) ∧ w'.ownsRow w.heap.size 9 1 (.slice a ms.length cap) ms.length (ms.flatMap Tx.enc) ∧ Below w.heap.size w w'
theorem words_parts (b : Brd) (p : Ply) : ∃ (ms : List ByteArray) (k : Int), ms.length ≤ 13 ∧ ∀ w e w', WordsPost b p w e w' → WP ms k w e w' := by
  cases h : b.okPlay p with
  | false =>
    refine ⟨[], 1, by simp, fun w e w' hw => ?_⟩
    unfold WordsPost at hw
    rw [h] at hw
    obtain ⟨rfl, hd⟩ := hw
    exact ⟨none, 0, rfl, ⟨by simp, .inl ⟨rfl, rfl⟩⟩, hd⟩
  | true =>
    obtain ⟨n, hg⟩ := okPlay_good h
    refine ⟨b.words p, 0, ?_, fun w e w' hw => ?_⟩
    · rw [hg.words_cross]
      have h1 : (crossTo b p (b.fresh p)).length ≤ (b.fresh p).length := List.length_filter_le _ _
      have h2 : (b.fresh p).length ≤ p.word.size := freshL_len _ _ _ _
      have h3 := hg.twelve
      simp only [List.length_map, List.length_cons]
      omega
    · unfold WordsPost at hw
      rw [h] at hw
      obtain ⟨g, cap, rfl, ho, hd⟩ := hw
      exact ⟨some ⟨g, 0, none⟩, cap, rfl, ho, hd⟩
set_option maxRecDepth 100000 in
set_option maxHeartbeats 8000000 in
theorem lawWordsFormed_any (b : Brd) (p : Ply) (w : World) (hf : b.fit) (hpf : p.fit) (hE : CEnv w) :
    Calls Tryd.prog 4 #[.agg #[.int .i64 b.size, .string b.premium, .string b.cells], .agg #[.int .i64 p.row, .int .i64 p.col, .bool p.down, .string p.word]] w fun e w' => e = .returned (.bool true) ∧ Below w.heap.size w w' := by
  obtain ⟨w2, hw2⟩ : ∃ w2, w2 = (w.alloc (.cells #[.int .i64 b.size, .string b.premium, .string b.cells] 23)).alloc (.cells #[.int .i64 p.row, .int .i64 p.col, .bool p.down, .string p.word] 34) := ⟨_, rfl⟩
  have hb : Below w.heap.size w w2 := by rw [hw2]; exact ((Below.refl _ _).alloc (Nat.le_refl _) _).alloc (by simp) _
  have VB : Hid (VarAt w2 w.heap.size 23 [.int .i64 b.size, .string b.premium, .string b.cells]) := by
    rw [hw2]
    exact Lib.hid ((VarAt.new w 23 [.int .i64 b.size, .string b.premium, .string b.cells]).kept ((Below.refl _ _).alloc (Nat.le_refl _) _))
  have VP : Hid (VarAt w2 (w.heap.size + 1) 34 [.int .i64 p.row, .int .i64 p.col, .bool p.down, .string p.word]) := by
    rw [hw2]
    have := VarAt.new (w.alloc (.cells #[.int .i64 b.size, .string b.premium, .string b.cells] 23)) 34 [.int .i64 p.row, .int .i64 p.col, .bool p.down, .string p.word]
    simp only [World.size_alloc] at this
    exact Lib.hid this
  obtain ⟨ms, kc, hml, hwp⟩ := words_parts b p
  have HSP : Hid (∀ W, Calls Tryd.prog 12 #[.agg #[.int .i64 b.size, .string b.premium, .string b.cells], .agg #[.int .i64 p.row, .int .i64 p.col, .bool p.down, .string p.word]] W (WP ms kc W)) := Lib.hid (fun W => (specWordsFormed_any b p W hf hpf).mono (fun e w' => hwp W e w'))
  have HIM : Hid (p.word.size ≤ 1048576 → ∀ W, CEnv W → Calls Tryd.prog 14 #[.agg #[.int .i64 b.size, .string b.premium, .string b.cells], .agg #[.int .i64 p.row, .int .i64 p.col, .bool p.down, .string p.word]] W (WP ms kc W)) := Lib.hid (fun hs W he => (WordsFormed_any b p W hf hs he).mono (fun e w' => hwp W e w'))
  have HE := Lib.hid (hE.kept hb)
  have HW2 := Lib.hid hw2
  clear hw2 hwp hE
  go_enter Tryd.func4, Tryd.ntmps4
  go_upto_region 2 with fail
  rw [← HW2.out]
  clear HW2
  have b0 := VB.out.cell (i := 0) rfl
  have b1 := VB.out.cell (i := 1) rfl
  have b2 := VB.out.cell (i := 2) rfl
  go_wp2_with fail
  refine (szBoard_any b 1048576 _ (by omega) (by omega) hf).mono ?_
  rintro e w3 ⟨l1, rfl, z1, hd⟩
  replace hb := hb.trans (hd.mono hb.size)
  replace b0 := cell_kept b0 hd
  replace b1 := cell_kept b1 hd
  replace b2 := cell_kept b2 hd
  replace VB := Lib.hid (VB.out.kept hd)
  replace VP := Lib.hid (VP.out.kept hd)
  replace HE := Lib.hid (HE.out.kept hd)
  clear hd
  clear b0 b1 b2
  rcases z1 with rfl | ⟨y1, z1⟩
  · go_wp2
    go_ret
    exact ⟨rfl, hb⟩
  have n1 : ¬ l1 < 0 := by omega
  have p0 := VP.out.cell (i := 0) rfl
  have p1 := VP.out.cell (i := 1) rfl
  have p2 := VP.out.cell (i := 2) rfl
  have p3 := VP.out.cell (i := 3) rfl
  go_wp2_with fail
  refine (szPlay_any p l1 _ (by omega) (by omega) hpf).mono ?_
  rintro e w4 ⟨l2, rfl, z2, hd⟩
  clear p0 p1 p2 p3
  replace hb := hb.trans (hd.mono hb.size)
  replace VB := Lib.hid (VB.out.kept hd)
  replace VP := Lib.hid (VP.out.kept hd)
  replace HE := Lib.hid (HE.out.kept hd)
  clear hd
  rcases z2 with rfl | ⟨y2, z2⟩
  · go_wp2
    go_ret
    exact ⟨rfl, hb⟩
  have n2 : ¬ l2 < 0 := by omega
  have hps : p.word.size ≤ 1048576 := by unfold Ply.sz at z2; omega
  replace HIM := Lib.hid (HIM.out hps)
  clear z1 z2 y1 y2 hps hf hpf
  go_upto_region 8 with fail
  have hd : Below w4.heap.size w4 w4.drew := (Below.refl _ _).drew
  replace hb := hb.trans (hd.mono hb.size)
  replace VB := Lib.hid (VB.out.kept hd)
  replace VP := Lib.hid (VP.out.kept hd)
  replace HE := Lib.hid (HE.out.kept hd)
  clear hd
  go_region_held3 (fun w' => w'.cell? ⟨w.heap.size, 0, none⟩ = some (.int .i64 b.size) ∧ w'.cell? ⟨w.heap.size, 1, none⟩ = some (.string b.premium) ∧ w'.cell? ⟨w.heap.size, 2, none⟩ = some (.string b.cells) ∧ w'.cell? ⟨w.heap.size + 1, 0, none⟩ = some (.int .i64 p.row) ∧ w'.cell? ⟨w.heap.size + 1, 1, none⟩ = some (.int .i64 p.col) ∧ w'.cell? ⟨w.heap.size + 1, 2, none⟩ = some (.bool p.down) ∧ w'.cell? ⟨w.heap.size + 1, 3, none⟩ = some (.string p.word))
    (exact ⟨VB.out.cell (i := 0) rfl, VB.out.cell (i := 1) rfl, VB.out.cell (i := 2) rfl, VP.out.cell (i := 0) rfl, VP.out.cell (i := 1) rfl, VP.out.cell (i := 2) rfl, VP.out.cell (i := 3) rfl⟩)
    (((first | (go_at_call 8; refine (toBoard_any b _).mono ?_; rintro e wq ⟨rfl, hd⟩) | (go_at_call 13; refine (toPlay_any p _).mono ?_; rintro e wq ⟨rfl, hd⟩) | (go_at_call 12; refine (HSP.out _).mono ?_; rintro e wq ⟨a1, cap1, rfl, o1, hd⟩)); skip; replace VB := Lib.hid (VB.out.kept hd); replace VP := Lib.hid (VP.out.kept hd); replace HE := Lib.hid (HE.out.kept hd); replace hb := hb.trans (hd.mono hb.size); clear hd))
  generalize wq = w5 at *
  have S1 := Lib.hid (own_slice Tx.enc_len o1 rfl)
  clear o1
  go_upto_region 9 with fail
  have VBA := VB
  have VPA := VP
  have HEA := HE
  have S1A := S1
  have hbA := hb
  have hd : Below w5.heap.size w5 w5.drew := (Below.refl _ _).drew
  have hA := hd
  replace hb := hb.trans (hd.mono hb.size)
  replace VB := Lib.hid (VB.out.kept hd)
  replace VP := Lib.hid (VP.out.kept hd)
  replace HE := Lib.hid (HE.out.kept hd)
  replace S1 := Lib.hid (S1.out.kept hd)
  clear hd
  go_region_held3 (fun w' => w'.cell? ⟨w.heap.size, 0, none⟩ = some (.int .i64 b.size) ∧ w'.cell? ⟨w.heap.size, 1, none⟩ = some (.string b.premium) ∧ w'.cell? ⟨w.heap.size, 2, none⟩ = some (.string b.cells) ∧ w'.cell? ⟨w.heap.size + 1, 0, none⟩ = some (.int .i64 p.row) ∧ w'.cell? ⟨w.heap.size + 1, 1, none⟩ = some (.int .i64 p.col) ∧ w'.cell? ⟨w.heap.size + 1, 2, none⟩ = some (.bool p.down) ∧ w'.cell? ⟨w.heap.size + 1, 3, none⟩ = some (.string p.word))
    (exact ⟨VB.out.cell (i := 0) rfl, VB.out.cell (i := 1) rfl, VB.out.cell (i := 2) rfl, VP.out.cell (i := 0) rfl, VP.out.cell (i := 1) rfl, VP.out.cell (i := 2) rfl, VP.out.cell (i := 3) rfl⟩)
    (((first | (go_at_call 8; refine (toBoard_any b _).mono ?_; rintro e wq ⟨rfl, hd⟩) | (go_at_call 13; refine (toPlay_any p _).mono ?_; rintro e wq ⟨rfl, hd⟩) | (go_at_call 14; refine (HIM.out _ HE.out).mono ?_; rintro e wq ⟨a2, cap2, rfl, o2, hd⟩)); (try have O2 := Lib.hid (own_mono o2 hA.size)) <;> replace S1 := Lib.hid (S1.out.kept hd) <;> replace hA := hA.trans (hd.mono hA.size); replace VB := Lib.hid (VB.out.kept hd); replace VP := Lib.hid (VP.out.kept hd); replace HE := Lib.hid (HE.out.kept hd); replace hb := hb.trans (hd.mono hb.size); clear hd))
  generalize wq = w6 at *
  clear o2 hb VB VP HE
  have S2 := Lib.hid (own_slice Tx.enc_len O2.out rfl)
  have hkk : (kc != kc) = false := by simp
  go_wp2_with fail
  refine (eqStringS_any ms _ _ cap2 cap1 _ S2.out S1.out (by omega)).mono ?_
  rintro e w7 ⟨rfl, hd⟩
  replace O2 := Lib.hid (own_below O2.out hd)
  replace hA := hA.trans (hd.mono hA.size)
  clear hd S1 S2
  go_wp2_with fail
  refine (markStringS_any ms _ cap2 _ 1 _ O2.out (by omega) (by omega) (by omega)).mono ?_
  rintro e w8 ⟨rfl, ho, hg⟩
  replace hA := hA.grown hg hA.size (fun q h => (O2.out.lt q h).1)
  have SM := Lib.hid (own_slice Tx.enc_len ho (Tx.marks_len 1 ms.length).symm)
  clear ho hg O2
  have hm2 : ¬ (1 : Int) + (ms.length : Int) < 0 := by omega
  go_wp2_with fail
  refine (heldStringS_any ms.length _ cap2 1 _ SM.out (by omega) (by omega) (by omega)).mono ?_
  rintro e w9 ⟨rfl, hd⟩
  replace hA := hA.trans (hd.mono hA.size)
  replace SM := Lib.hid (SM.out.kept hd)
  clear hd
  have VB := Lib.hid (VBA.out.kept hA)
  have VP := Lib.hid (VPA.out.kept hA)
  have HE := Lib.hid (HEA.out.kept hA)
  have S1 := Lib.hid (S1A.out.kept hA)
  have hb := hbA.trans (hA.mono hbA.size)
  clear hA hbA VBA VPA HEA S1A
  go_upto_region 20 with fail
  have hd : Below w9.heap.size w9 w9.drew := (Below.refl _ _).drew
  replace hb := hb.trans (hd.mono hb.size)
  replace VB := Lib.hid (VB.out.kept hd)
  replace VP := Lib.hid (VP.out.kept hd)
  replace HE := Lib.hid (HE.out.kept hd)
  replace S1 := Lib.hid (S1.out.kept hd)
  replace SM := Lib.hid (SM.out.kept hd)
  clear hd
  go_region_held3 (fun w' => w'.cell? ⟨w.heap.size, 0, none⟩ = some (.int .i64 b.size) ∧ w'.cell? ⟨w.heap.size, 1, none⟩ = some (.string b.premium) ∧ w'.cell? ⟨w.heap.size, 2, none⟩ = some (.string b.cells) ∧ w'.cell? ⟨w.heap.size + 1, 0, none⟩ = some (.int .i64 p.row) ∧ w'.cell? ⟨w.heap.size + 1, 1, none⟩ = some (.int .i64 p.col) ∧ w'.cell? ⟨w.heap.size + 1, 2, none⟩ = some (.bool p.down) ∧ w'.cell? ⟨w.heap.size + 1, 3, none⟩ = some (.string p.word))
    (exact ⟨VB.out.cell (i := 0) rfl, VB.out.cell (i := 1) rfl, VB.out.cell (i := 2) rfl, VP.out.cell (i := 0) rfl, VP.out.cell (i := 1) rfl, VP.out.cell (i := 2) rfl, VP.out.cell (i := 3) rfl⟩)
    (((first | (go_at_call 8; refine (toBoard_any b _).mono ?_; rintro e wq ⟨rfl, hd⟩) | (go_at_call 13; refine (toPlay_any p _).mono ?_; rintro e wq ⟨rfl, hd⟩) | (go_at_call 14; refine (HIM.out _ HE.out).mono ?_; rintro e wq ⟨a3, cap3, rfl, o3, hd⟩)); replace S1 := Lib.hid (S1.out.kept hd) <;> replace SM := Lib.hid (SM.out.kept hd); replace VB := Lib.hid (VB.out.kept hd); replace VP := Lib.hid (VP.out.kept hd); replace HE := Lib.hid (HE.out.kept hd); replace hb := hb.trans (hd.mono hb.size); clear hd))
  generalize wq = w10 at *
  have S3 := Lib.hid (own_slice Tx.enc_len o3 rfl)
  clear o3 VB VP HE
  go_wp2_with fail
  refine (eqStringS_any ms _ _ cap3 cap1 _ S3.out S1.out (by omega)).mono ?_
  rintro e w11 ⟨rfl, hd⟩
  replace hb := hb.trans (hd.mono hb.size)
  replace SM := Lib.hid (SM.out.kept hd)
  clear hd S1 S3
  go_wp2_with fail
  refine (heldStringS_any ms.length _ cap2 1 _ SM.out (by omega) (by omega) (by omega)).mono ?_
  rintro e w12 ⟨rfl, hd⟩
  replace hb := hb.trans (hd.mono hb.size)
  clear hd
  go_wp2
  go_ret
  exact ⟨rfl, hb⟩
end Go.Proofs.YtoeoijkhlpacdaaDoor
