/- Contracts: the program's words for a slot, and a word put into it. For grids of at most 5 rows and columns, and words of ASCII bytes. -/
import Derived.Test.YtjknpmdmchlfcaaGrK
namespace Go.Proofs.Ytjknpmdmchlfcaa
open Go.ChangeShapes Go.WideShapes Go.ChangeAt Go.RowKit Go.Sort

set_option maxRecDepth 100000 in
set_option maxHeartbeats 4000000 in
theorem candidates_any (R C : Nat) (gs : ByteArray) (s : Slt) (ws : List ByteArray) (a : Option Addr) (wc : Nat) (w : World) (hw : SliceAt w 1 Tx.enc a ws) (hl : ws.length ≤ 200) (hf : WordsFit ws) (hA : ∀ x ∈ ws, Ascii x) (hin : s.within R C) (hR : R ≤ 5) (hC : C ≤ 5) (hz : gs.size = R * C) :
    Calls Try.prog 63 #[.agg #[.int .i64 R, .int .i64 C, .string gs], .agg #[.slice a ws.length wc], .agg #[.int .i64 (s.row : Int), .int .i64 (s.col : Int), .bool s.down, .int .i64 (s.len : Int)]] w (TextsPost w (candL C gs.data.toList s ws)) := by
  obtain ⟨w3, hw3⟩ : ∃ w3, w3 = ((w.alloc (.cells #[.int .i64 R, .int .i64 C, .string gs] 31)).alloc (.cells #[.slice a ws.length wc] 33)).alloc (.cells #[.int .i64 (s.row : Int), .int .i64 (s.col : Int), .bool s.down, .int .i64 (s.len : Int)] 114) := ⟨_, rfl⟩
  have hb : Below w.heap.size w w3 := by rw [hw3]; exact (((Below.refl _ _).alloc (Nat.le_refl _) _).alloc (by simp) _).alloc (by simp; omega) _
  have VG : Hid (VarAt w3 w.heap.size 31 [.int .i64 R, .int .i64 C, .string gs]) := by
    rw [hw3]
    exact Lib.hid (((VarAt.new w 31 [.int .i64 R, .int .i64 C, .string gs]).kept ((Below.refl _ _).alloc (Nat.le_refl _) _)).kept ((Below.refl _ _).alloc (Nat.le_refl _) _))
  have VL : Hid (VarAt w3 (w.heap.size + 1) 33 [.slice a ws.length wc]) := by
    rw [hw3]
    have := (VarAt.new (w.alloc (.cells #[.int .i64 R, .int .i64 C, .string gs] 31)) 33 [.slice a ws.length wc]).kept ((Below.refl _ _).alloc (Nat.le_refl _) (.cells #[.int .i64 (s.row : Int), .int .i64 (s.col : Int), .bool s.down, .int .i64 (s.len : Int)] 114))
    simp only [World.size_alloc] at this
    exact Lib.hid this
  have VS : Hid (VarAt w3 (w.heap.size + 1 + 1) 114 [.int .i64 (s.row : Int), .int .i64 (s.col : Int), .bool s.down, .int .i64 (s.len : Int)]) := by
    rw [hw3]
    have := VarAt.new ((w.alloc (.cells #[.int .i64 R, .int .i64 C, .string gs] 31)).alloc (.cells #[.slice a ws.length wc] 33)) 114 [.int .i64 (s.row : Int), .int .i64 (s.col : Int), .bool s.down, .int .i64 (s.len : Int)]
    simp only [World.size_alloc] at this
    exact Lib.hid this
  have HP : Hid (∀ W, Calls Try.prog 104 #[.agg #[.int .i64 R, .int .i64 C, .string gs], .agg #[.int .i64 (s.row : Int), .int .i64 (s.col : Int), .bool s.down, .int .i64 (s.len : Int)]] W (StrPost W (patL C gs.data.toList s))) := Lib.hid (fun W => pattern_any R C gs s W hin hR hC hz)
  have hps : (mkB (patL C gs.data.toList s)).size ≤ 9223372036854775807 := by
    rw [mkB_size, patL_len]
    unfold Slt.within at hin
    split at hin <;> omega
  have HSE : Hid (∀ pb W, W.cell? ⟨pb, 0, none⟩ = some (.string (mkB (patL C gs.data.toList s))) → SliceAt W 1 Tx.enc a ws → Calls Try.prog 105 #[.slice a ws.length wc, .func (.func 106) #[] #[.pointer (some ⟨pb, 0, none⟩)]] W (TextsPost W (candL C gs.data.toList s ws))) := Lib.hid (fun pb W h1 h2 => by
    have := selectedCand_any ws (mkB (patL C gs.data.toList s)) pb a wc W h1 h2 hl hf hA hps
    rwa [mkB_data] at this)
  have HM := Lib.hid (hw.kept hb)
  have HW3 := Lib.hid hw3
  have g0 := VG.out.cell (i := 0) rfl
  have g1 := VG.out.cell (i := 1) rfl
  have g2 := VG.out.cell (i := 2) rfl
  have s0 := VS.out.cell (i := 0) rfl
  have s1 := VS.out.cell (i := 1) rfl
  have s2 := VS.out.cell (i := 2) rfl
  have s3 := VS.out.cell (i := 3) rfl
  clear hw hf hA hin hz hps hw3
  go_enter Try.func63, Try.ntmps63
  go_upto_region 1 with fail
  rw [← HW3.out]
  clear HW3
  go_wp2_with fail
  refine (HP.out _).mono ?_
  rintro e w4 ⟨rfl, hd⟩
  replace VL := Lib.hid (VL.out.kept hd)
  replace HM := Lib.hid (HM.out.kept hd)
  replace hb := hb.trans (hd.mono hb.size)
  clear hd g0 g1 g2 s0 s1 s2 s3 VG VS HP
  generalize mkB (patL C gs.data.toList s) = pt at *
  have hx : Below w4.heap.size w4 (w4.alloc (.cells #[.string pt] 9)) := (Below.refl _ _).alloc (Nat.le_refl _) _
  have cp := cell_new0 w4 #[.string pt] 9 (i := 0) (v := .string pt) rfl
  replace VL := Lib.hid (VL.out.kept hx)
  replace HM := Lib.hid (HM.out.kept hx)
  replace hb := hb.trans (hx.mono hb.size)
  clear hx
  have l0 := VL.out.cell (i := 0) rfl
  go_wp2_with fail
  refine (HSE.out _ _ cp HM.out).mono ?_
  rintro e w5 ⟨g, cap, rfl, ho, hd⟩
  have HO := Lib.hid (own_mono ho hb.size)
  replace hb := hb.trans (hd.mono hb.size)
  clear hd ho cp l0
  go_wp2
  go_ret
  exact ⟨g, cap, rfl, HO.out, hb⟩
set_option maxRecDepth 100000 in
set_option maxHeartbeats 8000000 in
theorem put_any (R C : Nat) (gs : ByteArray) (s : Slt) (x : ByteArray) (w : World) (hx : x.size = s.len) (ha : Ascii x) (hin : s.within R C) (hR : R ≤ 5) (hC : C ≤ 5) (hz : gs.size = R * C) :
    Calls Try.prog 64 #[.agg #[.int .i64 R, .int .i64 C, .string gs], .agg #[.int .i64 (s.row : Int), .int .i64 (s.col : Int), .bool s.down, .int .i64 (s.len : Int)], .string x] w fun e w' => e = .returned (.agg #[.int .i64 R, .int .i64 C, .string (mkB (putL C gs.data.toList s x.data.toList))]) ∧ Below w.heap.size w w' := by
  obtain ⟨w3, hw3⟩ : ∃ w3, w3 = ((w.alloc (.cells #[.int .i64 R, .int .i64 C, .string gs] 31)).alloc (.cells #[.int .i64 (s.row : Int), .int .i64 (s.col : Int), .bool s.down, .int .i64 (s.len : Int)] 114)).alloc (.cells #[.int .i64 0, .int .i64 0, .string ⟨#[]⟩] 31) := ⟨_, rfl⟩
  have hb : Below w.heap.size w w3 := by rw [hw3]; exact (((Below.refl _ _).alloc (Nat.le_refl _) _).alloc (by simp) _).alloc (by simp; omega) _
  have hs3 : w3.heap.size = w.heap.size + 1 + 1 + 1 := by rw [hw3]; simp
  have VG : Hid (VarAt w3 w.heap.size 31 [.int .i64 R, .int .i64 C, .string gs]) := by
    rw [hw3]
    exact Lib.hid (((VarAt.new w 31 [.int .i64 R, .int .i64 C, .string gs]).kept ((Below.refl _ _).alloc (Nat.le_refl _) _)).kept ((Below.refl _ _).alloc (Nat.le_refl _) _))
  have VS : Hid (VarAt w3 (w.heap.size + 1) 114 [.int .i64 (s.row : Int), .int .i64 (s.col : Int), .bool s.down, .int .i64 (s.len : Int)]) := by
    rw [hw3]
    have := (VarAt.new (w.alloc (.cells #[.int .i64 R, .int .i64 C, .string gs] 31)) 114 [.int .i64 (s.row : Int), .int .i64 (s.col : Int), .bool s.down, .int .i64 (s.len : Int)]).kept ((Below.refl _ _).alloc (Nat.le_refl _) (.cells #[.int .i64 0, .int .i64 0, .string ⟨#[]⟩] 31))
    simp only [World.size_alloc] at this
    exact Lib.hid this
  have V0 : Hid (VarAt w3 (w.heap.size + 1 + 1) 31 [.int .i64 0, .int .i64 0, .string ⟨#[]⟩]) := by
    rw [hw3]
    have := VarAt.new ((w.alloc (.cells #[.int .i64 R, .int .i64 C, .string gs] 31)).alloc (.cells #[.int .i64 (s.row : Int), .int .i64 (s.col : Int), .bool s.down, .int .i64 (s.len : Int)] 114)) 31 [.int .i64 0, .int .i64 0, .string ⟨#[]⟩]
    simp only [World.size_alloc] at this
    exact Lib.hid this
  have HXL : Hid (x.data.toList.length = s.len) := Lib.hid (by rw [← hx]; simp)
  have HSM := Lib.hid (fun h => within_small hin hR hC h)
  have HIX : Hid (∀ k, k < s.len → sqr C s k < gs.size) := Lib.hid (fun k hk => by rw [hz]; exact sqr_lt hin hk)
  have hln : s.len ≤ 5 := by unfold Slt.within at hin; split at hin <;> omega
  have HXS := Lib.hid hx
  have HAS := Lib.hid ha
  obtain ⟨cp, w4, hcp, hcv, hr, hd⟩ := bytes_of gs w3
  rw [hs3] at hcv hr
  have HR := Lib.hid hr
  have HGS : Hid (gs.data.toList.length = gs.size) := Lib.hid (by simp)
  have g2 := VG.out.cell (i := 2) rfl
  have HW3 := Lib.hid hw3
  clear hin hz hx hr ha hw3
  go_enter Try.func64, Try.ntmps64
  go_upto_region 1 with fail
  rw [← HW3.out]
  clear HW3
  go_upto_region 2 with fail
  clear hcv g2
  replace VG := Lib.hid (VG.out.kept hd)
  replace VS := Lib.hid (VS.out.kept hd)
  replace V0 := Lib.hid (V0.out.kept hd)
  replace hb := hb.trans (hd.mono hb.size)
  clear hd hs3
  have hit := iter_below w4 x
  have HI := Lib.hid (IterAt.new w4 x)
  have hrlt := HR.out.lt
  replace VG := Lib.hid (VG.out.kept hit)
  replace VS := Lib.hid (VS.out.kept hit)
  replace V0 := Lib.hid (V0.out.kept hit)
  replace HR := Lib.hid (HR.out.kept hit)
  replace hb := hb.trans (hit.mono hb.size)
  clear hit
  go_wp2_with fail
  generalize w4.iter x 0 = w5 at *
  generalize w4.heap.size = it at *
  go_loopw [8] (fun _ wr => ∃ k : Nat, k ≤ x.size ∧ Hid (IterAt wr it x k) ∧ Hid (RowB wr (w.heap.size + 1 + 1 + 1) (putK C gs.data.toList s x.data.toList k)) ∧ Hid (VarAt wr w.heap.size 31 [.int .i64 R, .int .i64 C, .string gs]) ∧ Hid (VarAt wr (w.heap.size + 1) 114 [.int .i64 (s.row : Int), .int .i64 (s.col : Int), .bool s.down, .int .i64 (s.len : Int)]) ∧ Hid (VarAt wr (w.heap.size + 1 + 1) 31 [.int .i64 0, .int .i64 0, .string ⟨#[]⟩]) ∧ Below w.heap.size w wr) (fun _ wr => x.size - wr.iterPos it)
  case atStart => exact ⟨0, Nat.zero_le _, HI, HR, VG, VS, V0, hb⟩
  case round =>
    clear HI HR VG VS V0 hb
    obtain ⟨k, hk, HI, HR, VG, VS, V0, hb⟩ := hrel
    by_cases hlt : k < x.size
    · have hks : k < s.len := by rw [← HXS.out]; exact hlt
      obtain ⟨w1, hnx, hi2, hg2⟩ := next_at (P := Try.prog) HI.out hlt (HAS.out k hlt)
      have HP := Lib.hid HI.out.pos
      have HI2 := Lib.hid hi2
      replace VG := Lib.hid (VG.out.grown hg2 (by simp; omega))
      replace VS := Lib.hid (VS.out.grown hg2 (by simp; omega))
      replace V0 := Lib.hid (V0.out.grown hg2 (by simp; omega))
      replace HR := Lib.hid (HR.out.grown hg2 (by simp; omega))
      replace hb := hb.grown hg2 hb.size (fun q h => by cases h; omega)
      clear hi2 hg2
      obtain ⟨m1, m2, _⟩ := HSM.out (by omega)
      have hix := HIX.out k hks
      have HPL := Lib.hid (putK_len C gs.data.toList s x.data.toList k)
      have HQ : Hid (∀ W, Calls Try.prog 108 #[.agg #[.int .i64 R, .int .i64 C, .string gs], .agg #[.int .i64 (s.row : Int), .int .i64 (s.col : Int), .bool s.down, .int .i64 (s.len : Int)], .int .i64 k] W fun e w' => e = .returned (.int .i64 (sqr C s k : Int)) ∧ Below W.heap.size W w') := Lib.hid (fun W => gindex_any R C gs s k W m1 m2 hC (by omega))
      have HT : Hid (putK C gs.data.toList s x.data.toList (k + 1) = (putK C gs.data.toList s x.data.toList k).set (sqr C s k) x[k]) := Lib.hid (by rw [putK_succ, getD_byte hlt])
      clear m1 m2
      generalize putK C gs.data.toList s x.data.toList k = P at *
      generalize sqr C s k = j at *
      have hjc : (j : Int) < (cp : Int) := by omega
      go_upto_region 5 with fail
      clear hnx
      have hk2 : Below w1.heap.size w1 w1.drew := (Below.refl _ _).drew
      have kg := Lib.hid (VG.out.kept hk2)
      have ks := Lib.hid (VS.out.kept hk2)
      go_region_held3 (fun w' => w'.cell? ⟨w.heap.size, 0, none⟩ = some (.int .i64 R) ∧ w'.cell? ⟨w.heap.size, 1, none⟩ = some (.int .i64 C) ∧ w'.cell? ⟨w.heap.size, 2, none⟩ = some (.string gs) ∧ w'.cell? ⟨w.heap.size + 1, 0, none⟩ = some (.int .i64 (s.row : Int)) ∧ w'.cell? ⟨w.heap.size + 1, 1, none⟩ = some (.int .i64 (s.col : Int)) ∧ w'.cell? ⟨w.heap.size + 1, 2, none⟩ = some (.bool s.down) ∧ w'.cell? ⟨w.heap.size + 1, 3, none⟩ = some (.int .i64 (s.len : Int)))
        (first | exact ⟨kg.out.cell (i := 0) rfl, kg.out.cell (i := 1) rfl, kg.out.cell (i := 2) rfl, ks.out.cell (i := 0) rfl, ks.out.cell (i := 1) rfl, ks.out.cell (i := 2) rfl, ks.out.cell (i := 3) rfl⟩ | exact ⟨kg9.out.cell (i := 0) rfl, kg9.out.cell (i := 1) rfl, kg9.out.cell (i := 2) rfl, ks9.out.cell (i := 0) rfl, ks9.out.cell (i := 1) rfl, ks9.out.cell (i := 2) rfl, ks9.out.cell (i := 3) rfl⟩)
        ((go_at_call 108; refine (HQ.out _).mono ?_; rintro e wq ⟨rfl, hdd⟩; replace kg := Lib.hid (kg.out.kept hdd); replace ks := Lib.hid (ks.out.kept hdd); replace hk2 := hk2.trans (hdd.mono hk2.size); have HRQ := Lib.hid (HR.out.kept hk2); have st := HRQ.out.cell (i := j) (by rw [HPL.out, HGS.out]; exact hix); have sf := HRQ.out.free (i := j) (by rw [HPL.out, HGS.out]; exact hix); have kg9 := Lib.hid (kg.out.grown (HRQ.out.set j x[k]).2 (by simp; omega)); have ks9 := Lib.hid (ks.out.grown (HRQ.out.set j x[k]).2 (by simp)); clear hdd))
      all_goals
        obtain ⟨h9, k9⟩ := HRQ.out.set j x[k]
        have HR9 := Lib.hid (h9.as HT.out.symm)
        have V9 := Lib.hid ((V0.out.kept hk2).grown k9 (by simp))
        have HI9 := Lib.hid ((HI2.out.kept hk2).grown k9 (by simp; omega))
        have hb9 := (hb.trans (hk2.mono hb.size)).grown k9 (Nat.le_trans hb.size hk2.size) (fun q h => by cases h; omega)
        clear h9 k9 HRQ hk2 kg ks st sf
        go_wp2
        go_roundw
        case rel => exact ⟨k + 1, by omega, HI9, HR9, kg9, ks9, V9, hb9⟩
        case measure => rw [HP.out, HI9.out.pos]; omega
    · have hnx := next_end (P := Try.prog) HI.out hlt
      obtain rfl : k = x.size := by omega
      have HPL := Lib.hid (putK_len C gs.data.toList s x.data.toList x.size)
      have HPE : Hid (putL C gs.data.toList s x.data.toList = putK C gs.data.toList s x.data.toList x.size) := Lib.hid (by rw [putL_eq, HXL.out, HXS.out])
      generalize putK C gs.data.toList s x.data.toList x.size = P at *
      have hcv := HR.out.str (n := gs.size) (cap := cp) (by rw [HPL.out, HGS.out])
      have q0 := VG.out.cell (i := 0) rfl
      have q1 := VG.out.cell (i := 1) rfl
      have q2 := VG.out.cell (i := 2) rfl
      have p2 := VG.out.free 2
      obtain ⟨oG, kG⟩ := VG.out.set 2 (.string (mkB P))
      have r0 := oG.cell (i := 0) (v := .int .i64 R) rfl
      have r1 := oG.cell (i := 1) (v := .int .i64 C) rfl
      have r2 := oG.cell (i := 2) (v := .string (mkB P)) rfl
      have V1 := Lib.hid (V0.out.grown kG (by simp; omega))
      have hb1 := hb.grown kG hb.size (fun q h => by cases h; exact Nat.le_refl _)
      have t0 := V1.out.cell (i := 0) rfl
      have t1 := V1.out.cell (i := 1) rfl
      have t2 := V1.out.cell (i := 2) rfl
      have u0 := V1.out.free 0
      have u1 := V1.out.free 1
      have u2 := V1.out.free 2
      obtain ⟨o0, k0⟩ := V1.out.set 0 (.int .i64 R)
      obtain ⟨o1, k1⟩ := o0.set 1 (.int .i64 C)
      obtain ⟨o2, k2⟩ := o1.set 2 (.string (mkB P))
      have GG := grownBy_trans (grownBy_trans k0 k1) k2
      have hb9 := hb1.grown GG hb1.size (fun q h => by cases h; omega)
      have e0 := o2.cell (i := 0) (v := .int .i64 R) rfl
      have e1 := o2.cell (i := 1) (v := .int .i64 C) rfl
      have e2 := o2.cell (i := 2) (v := .string (mkB P)) rfl
      clear o0 o1 o2 k0 k1 k2 GG oG kG hb1
      go_wp2
      refine bodyPost_ret (v := .agg #[.int .i64 R, .int .i64 C, .string (mkB P)]) (by simp [results, Try.results64, go_sem, e0, e1, e2]) rfl ?_
      exact ⟨by rw [HPE.out], hb9⟩
end Go.Proofs.Ytjknpmdmchlfcaa
