/- Contract: the program's check of a proof that a grid has no filling. For grids of at most 5 rows and columns, and at most 200 words of ASCII bytes. -/
import Derived.Test.YtjknpmdmchlfcaaGrL
import Derived.Test.YtjknpmdmchlfcaaGrG
namespace Go.Proofs.Ytjknpmdmchlfcaa
open Go.ChangeShapes Go.WideShapes Go.ChangeAt Go.RowKit Go.Sort

theorem slice_tail (pb po n pc : Nat) (h : n + 1 ≤ pc) (hm : pc ≤ 4611686018427387904) : ∃ ra : Option Addr, (∀ W, (Instr.slice 27 (.slice (some ⟨pb, po, none⟩) (n + 1) pc) (some (.int .i64 1)) none none).run Try.prog W = .ok (.slice ra n (pc - 1)) W) ∧ (n = 0 ∨ ra = some ⟨pb, po + 1, none⟩) := by
  have hu := Try.underlying27
  by_cases h1 : pc = 1
  · subst h1
    obtain rfl : n = 0 := by omega
    refine ⟨some ⟨pb, po, none⟩, fun W => ?_, .inl rfl⟩
    go_simp
  · refine ⟨some ⟨pb, po + 1, none⟩, fun W => ?_, .inr rfl⟩
    have h2 : (1 : Int) < (pc : Int) := by omega
    have h3 : ¬ (pc : Int) = 1 := by omega
    go_simp
    intro hx
    exact absurd hx (by omega)
set_option maxRecDepth 100000 in
set_option maxHeartbeats 8000000 in
theorem check_any (R C : Nat) (S : List Slt) (ws : List ByteArray) (wa : Option Addr) (wcp : Nat) (sa : Option Addr) (sc : Nat) (hR : R ≤ 5) (hC : C ≤ 5) (hS : ∀ s ∈ S, s.within R C) (hSl : S.length ≤ 100) (hl : ws.length ≤ 200) (hf : WordsFit ws) (hA : ∀ x ∈ ws, Ascii x) :
    ∀ (f : Nat) (gs : ByteArray) (P : List Int) (pa : Option Addr) (pc : Nat) (w : World), gs.size = R * C → P.length ≤ f → P.length ≤ pc → pc ≤ 4611686018427387904 → SliceAt w 1 Tx.enc wa ws → SliceAt w 4 Slt.enc sa S → SliceAt w 1 I64.enc pa P →
      Calls Try.prog 34 #[.agg #[.int .i64 R, .int .i64 C, .string gs], .agg #[.slice wa ws.length wcp], .slice sa S.length sc, .slice pa P.length pc] w (ChkPost (chk C S ws f gs.data.toList P) w) := by
  intro f
  induction f with
  | zero =>
    intro gs P pa pc w hz hpf hpc hpm hw hs hp
    obtain rfl : P = [] := List.length_eq_zero_iff.1 (by omega)
    have HN := Lib.hid (chk_none (C := C) (S := S) (ws := ws) (f := 0) (L := gs.data.toList))
    have hb : Below w.heap.size w ((w.alloc (.cells #[.int .i64 R, .int .i64 C, .string gs] 31)).alloc (.cells #[.slice wa ws.length wcp] 33)) := ((Below.refl _ _).alloc (Nat.le_refl _) _).alloc (by simp) _
    clear hz hs hw hp
    go_enter Try.func34, Try.ntmps34
    go_wp2
    go_ret2
    exact ⟨none, 0, by rw [HN.out]; rfl, by rw [HN.out]; exact .inl rfl, by rw [HN.out]; exact Nat.zero_le _, by omega, hb⟩
  | succ f ih =>
    intro gs P pa pc w hz hpf hpc hpm hw hs hp
    have IH := Lib.hid ih
    clear ih
    have hb : Below w.heap.size w ((w.alloc (.cells #[.int .i64 R, .int .i64 C, .string gs] 31)).alloc (.cells #[.slice wa ws.length wcp] 33)) := ((Below.refl _ _).alloc (Nat.le_refl _) _).alloc (by simp) _
    cases P with
    | nil =>
      have HN := Lib.hid (chk_none (C := C) (S := S) (ws := ws) (f := f + 1) (L := gs.data.toList))
      clear hz hs hw hp
      go_enter Try.func34, Try.ntmps34
      go_wp2
      go_ret2
      exact ⟨none, 0, by rw [HN.out]; rfl, by rw [HN.out]; exact .inl rfl, by rw [HN.out]; exact Nat.zero_le _, by omega, hb⟩
    | cons p ps =>
      replace hp := hp.kept hb
      replace hs := hs.kept hb
      have HW := Lib.hid (hw.kept hb)
      clear hw
      have VG : Hid (VarAt ((w.alloc (.cells #[.int .i64 R, .int .i64 C, .string gs] 31)).alloc (.cells #[.slice wa ws.length wcp] 33)) w.heap.size 31 [.int .i64 R, .int .i64 C, .string gs]) :=
        Lib.hid ((VarAt.new w 31 [.int .i64 R, .int .i64 C, .string gs]).kept ((Below.refl _ _).alloc (Nat.le_refl _) _))
      have VL : Hid (VarAt ((w.alloc (.cells #[.int .i64 R, .int .i64 C, .string gs] 31)).alloc (.cells #[.slice wa ws.length wcp] 33)) (w.heap.size + 1) 33 [.slice wa ws.length wcp]) := by
        have := VarAt.new (w.alloc (.cells #[.int .i64 R, .int .i64 C, .string gs] 31)) 33 [.slice wa ws.length wcp]
        simp only [World.size_alloc] at this
        exact Lib.hid this
      obtain ⟨pb, po, rfl, hcp⟩ := hp.open (k := 0) (by simp)
      have c0 := hcp.at0 (k := 0) (by simp) (v := .int .i64 p) rfl
      rw [Nat.zero_mul, Nat.add_zero] at c0
      cases hwi : withinB p 0 ((S.length : Int) - 1) with
      | false =>
        have HN := Lib.hid (chk_bad (C := C) (S := S) (ws := ws) (f := f) (L := gs.data.toList) (ps := ps) hwi)
        have HI : Hid (∀ W, Calls Try.prog 58 #[.int .i64 p, .int .i64 0, .int .i64 ((S.length : Int) - 1)] W fun e w' => e = .returned (.bool false) ∧ W = w') := Lib.hid (fun W => by have := within_any p 0 ((S.length : Int) - 1) W; rwa [hwi] at this)
        clear hz hs hp hwi hcp VG VL
        rw [List.length_cons] at hpc hpf
        go_enter Try.func34, Try.ntmps34
        go_wp2_with fail
        refine (HI.out _).mono ?_
        rintro e w' ⟨rfl, rfl⟩
        go_wp2
        go_ret2
        exact ⟨none, 0, by rw [HN.out]; rfl, by rw [HN.out]; exact .inl rfl, by rw [HN.out]; exact Nat.zero_le _, by omega, hb⟩
      | true =>
        obtain ⟨i, rfl, i1, i2⟩ := within_nat (by omega) hwi
        have hi : i < S.length := by omega
        have HI : Hid (∀ W, Calls Try.prog 58 #[.int .i64 (i : Int), .int .i64 0, .int .i64 ((S.length : Int) - 1)] W fun e w' => e = .returned (.bool true) ∧ W = w') := Lib.hid (fun W => by have := within_any (i : Int) 0 ((S.length : Int) - 1) W; rwa [hwi] at this)
        have HSS := Lib.hid hs
        obtain ⟨sk, so, rfl, hcs⟩ := hs.open hi
        have HSA := Lib.hid (cells_slt hcs hi)
        have HIN := Lib.hid (hS S[i] (List.getElem_mem hi))
        have HGOOD := Lib.hid (chk_good (C := C) (ws := ws) (f := f) (L := gs.data.toList) (ps := ps) hi)
        have HTL := Lib.hid (cells_tail hcp)
        have HZ := Lib.hid hz
        have hii : (i : Int) < (S.length : Int) := by omega
        generalize S[i] = s at *
        clear hz hs hp hwi hcp hcs i1 i2
        rw [List.length_cons] at hpc hpf
        obtain ⟨ra0, hsl, hra⟩ := slice_tail pb po ps.length pc hpc hpm
        have HTL2 : Hid (∀ W, SliceAt W 1 I64.enc (some ⟨pb, po + 1, none⟩) ps → SliceAt W 1 I64.enc ra0 ps) := Lib.hid (fun W h => by
          rcases hra with h0 | h0
          · exact .inl (List.length_eq_zero_iff.1 h0)
          · rw [h0]; exact h)
        replace HTL := Lib.hid (HTL2.out _ HTL.out)
        clear hra HTL2
        generalize hK : (fun (x : ByteArray) (r : List Int) => chk C S ws f (putL C gs.data.toList s x.data.toList) r) = K at *
        have HKX : Hid (∀ x r, chk C S ws f (putL C gs.data.toList s x.data.toList) r = K x r) := Lib.hid (fun x r => by rw [← hK])
        clear hK
        have HCL : Hid (∀ x ∈ candL C gs.data.toList s ws, x.size = s.len ∧ Ascii x) := Lib.hid (fun x hx => ⟨cand_len x hx, hA x (List.mem_filter.1 hx).1⟩)
        have HCN := Lib.hid (cand_le (C := C) (L := gs.data.toList) (s := s) (ws := ws))
        have HWD : Hid (∀ W, SliceAt W 1 Tx.enc wa ws → Calls Try.prog 63 #[.agg #[.int .i64 R, .int .i64 C, .string gs], .agg #[.slice wa ws.length wcp], .agg #[.int .i64 (s.row : Int), .int .i64 (s.col : Int), .bool s.down, .int .i64 (s.len : Int)]] W (TextsPost W (candL C gs.data.toList s ws))) :=
          Lib.hid (fun W h1 => candidates_any R C gs s ws wa wcp W h1 hl hf hA HIN.out hR hC HZ.out)
        generalize candL C gs.data.toList s ws = cs at *
        go_enter Try.func34, Try.ntmps34
        go_wp2_with fail
        refine (HI.out _).mono ?_
        rintro e w' ⟨rfl, rfl⟩
        clear HI
        go_upto_region 3 with fail
        generalize (w.alloc (.cells #[.int .i64 R, .int .i64 C, .string gs] 31)).alloc (.cells #[.slice wa ws.length wcp] 33) = w1 at *
        go_cut [10, 11, 12] (fun s10 s11 s12 wx => ∃ (sb : Nat) (ra : Option Addr), s10 = .pointer (some ⟨sb, 0, none⟩) ∧ s11 = .slice ra ps.length (pc - 1) ∧ s12 = .bool true ∧ Hid (VarAt wx sb 114 [.int .i64 (s.row : Int), .int .i64 (s.col : Int), .bool s.down, .int .i64 (s.len : Int)]) ∧ Hid (SliceAt wx 1 I64.enc ra ps) ∧ Below w1.heap.size w1 wx)
        case first =>
          have hk2 : Below w1.heap.size w1 w1.drew := (Below.refl _ _).drew
          have k0 := cell_kept c0 hk2
          have ks := Lib.hid (HSA.out.kept hk2)
          have kt := Lib.hid (HTL.out.kept hk2)
          go_region_held3 (fun w' => w'.cell? ⟨pb, po, none⟩ = some (.int .i64 (i : Int)) ∧ w'.cell? ⟨sk, so + i * 4, none⟩ = some (.int .i64 (s.row : Int)) ∧ w'.cell? ⟨sk, so + i * 4 + 1, none⟩ = some (.int .i64 (s.col : Int)) ∧ w'.cell? ⟨sk, so + i * 4 + 2, none⟩ = some (.bool s.down) ∧ w'.cell? ⟨sk, so + i * 4 + 3, none⟩ = some (.int .i64 (s.len : Int)))
            (first | exact ⟨k0, ks.out.1, ks.out.2.1, ks.out.2.2.1, ks.out.2.2.2⟩ | exact ⟨cell_alloc k0 _, cell_alloc ks.out.1 _, cell_alloc ks.out.2.1 _, cell_alloc ks.out.2.2.1 _, cell_alloc ks.out.2.2.2 _⟩)
            (fail)
          all_goals
            go_wp2_with fail
            go_meet
            exact ⟨_, ra0, rfl, rfl, rfl, Lib.hid ((VarAt.new w1.drew 114 [.int .i64 (s.row : Int), .int .i64 (s.col : Int), .bool s.down, .int .i64 (s.len : Int)])), Lib.hid (kt.out.kept ((Below.refl _ _).alloc (Nat.le_refl _) _)), hk2.trans (((Below.refl _ _).alloc (Nat.le_refl _) _).mono hk2.size)⟩
        case rest =>
          obtain ⟨sb, ra0, rfl, rfl, rfl, VS, HT0, hd⟩ := hcut
          replace VG := Lib.hid (VG.out.kept hd)
          replace VL := Lib.hid (VL.out.kept hd)
          replace HW := Lib.hid (HW.out.kept hd)
          replace HSS := Lib.hid (HSS.out.kept hd)
          replace hb := hb.trans (hd.mono hb.size)
          clear hd HSA HTL c0
          have g0 := VG.out.cell (i := 0) rfl
          have g1 := VG.out.cell (i := 1) rfl
          have g2 := VG.out.cell (i := 2) rfl
          have l0 := VL.out.cell (i := 0) rfl
          have s0 := VS.out.cell (i := 0) rfl
          have s1 := VS.out.cell (i := 1) rfl
          have s2 := VS.out.cell (i := 2) rfl
          have s3 := VS.out.cell (i := 3) rfl
          go_wp2_with fail
          refine (HWD.out _ HW.out).mono ?_
          rintro e w3 ⟨gc, cc, rfl, hoc, hd⟩
          replace VG := Lib.hid (VG.out.kept hd)
          replace VL := Lib.hid (VL.out.kept hd)
          replace VS := Lib.hid (VS.out.kept hd)
          replace HW := Lib.hid (HW.out.kept hd)
          replace HSS := Lib.hid (HSS.out.kept hd)
          replace HT0 := Lib.hid (HT0.out.kept hd)
          have HCS := Lib.hid (own_slice Tx.enc_len hoc rfl)
          replace hb := hb.trans (hd.mono hb.size)
          clear hd hoc HWD g0 g1 g2 l0 s0 s1 s2 s3
          have HCC : Hid (chk C S ws (f + 1) gs.data.toList ((i : Int) :: ps) = chain K (cs.drop 0) ps) := Lib.hid HGOOD.out
          have hcn : cs.length ≤ 200 := by have := HCN.out; omega
          clear HGOOD HCN
          go_wp2_with fail
          go_loopw [11, 41] (fun rv iv wr => ∃ (k : Nat) (r : List Int) (ra : Option Addr) (rc : Nat), k ≤ cs.length ∧ iv = .int .i64 k ∧ rv = .slice ra r.length rc ∧ r.length ≤ f ∧ r.length ≤ rc ∧ rc ≤ 4611686018427387904 ∧ Hid (chk C S ws (f + 1) gs.data.toList ((i : Int) :: ps) = chain K (cs.drop k) r) ∧ Hid (SliceAt wr 1 I64.enc ra r) ∧ Below w3.heap.size w3 wr) (fun _ iv _ => cs.length - (intOf iv).toNat)
          case atStart => exact ⟨0, ps, ra0, pc - 1, Nat.zero_le _, rfl, rfl, by omega, by omega, by omega, HCC, HT0, Below.refl _ _⟩
          case round =>
            clear HCC HT0
            obtain ⟨k, r, ra, rc, hk, rfl, rfl, hrf, hrc, hrm, HCC, HT, hb3⟩ := hrel
            by_cases hlt : k < cs.length
            · obtain ⟨mb, mo, hmm, hcc⟩ := (HCS.out.kept hb3).open hlt
              have c0 := hcc.at0 hlt (v := .string cs[k]) rfl
              rw [Nat.mul_one] at c0
              have HXS := Lib.hid (HCL.out cs[k] (List.getElem_mem hlt))
              have HST := Lib.hid (chain_step (k := K) hlt r)
              have hmm2 : mb = gc ∧ mo = 0 := by simpa using hmm.symm
              obtain ⟨rfl, rfl⟩ := hmm2
              rw [Nat.zero_add] at c0
              clear hcc hmm
              generalize cs[k] = x at *
              have HPUT := Lib.hid (fun W => put_any R C gs s x W HXS.out.1 HXS.out.2 HIN.out hR hC HZ.out)
              have HZ4 : Hid ((mkB (putL C gs.data.toList s x.data.toList)).size = R * C) := Lib.hid (by rw [mkB_size, putL_len, ← HZ.out]; simp)
              have HIH := Lib.hid (IH.out (mkB (putL C gs.data.toList s x.data.toList)) r)
              rw [mkB_data, HKX.out] at HIH
              generalize mkB (putL C gs.data.toList s x.data.toList) = ns at *
              go_upto_region 7 with fail
              clear c0
              have hk2 : Below wr.heap.size wr wr.drew := (Below.refl _ _).drew
              have kg := Lib.hid ((VG.out.kept hb3).kept hk2)
              have kl := Lib.hid ((VL.out.kept hb3).kept hk2)
              have ks := Lib.hid ((VS.out.kept hb3).kept hk2)
              have kW := Lib.hid ((HW.out.kept hb3).kept hk2)
              have kS := Lib.hid ((HSS.out.kept hb3).kept hk2)
              have kT := Lib.hid (HT.out.kept hk2)
              clear HT
              go_region_held3 (fun w' => w'.cell? ⟨w.heap.size, 0, none⟩ = some (.int .i64 R) ∧ w'.cell? ⟨w.heap.size, 1, none⟩ = some (.int .i64 C) ∧ w'.cell? ⟨w.heap.size, 2, none⟩ = some (.string gs) ∧ w'.cell? ⟨w.heap.size + 1, 0, none⟩ = some (.slice wa ws.length wcp) ∧ w'.cell? ⟨sb, 0, none⟩ = some (.int .i64 (s.row : Int)) ∧ w'.cell? ⟨sb, 1, none⟩ = some (.int .i64 (s.col : Int)) ∧ w'.cell? ⟨sb, 2, none⟩ = some (.bool s.down) ∧ w'.cell? ⟨sb, 3, none⟩ = some (.int .i64 (s.len : Int)))
                (exact ⟨kg.out.cell (i := 0) rfl, kg.out.cell (i := 1) rfl, kg.out.cell (i := 2) rfl, kl.out.cell (i := 0) rfl, ks.out.cell (i := 0) rfl, ks.out.cell (i := 1) rfl, ks.out.cell (i := 2) rfl, ks.out.cell (i := 3) rfl⟩)
                ((first
                  | (go_at_call 64; refine (HPUT.out _).mono ?_; rintro e wq ⟨rfl, hdd⟩; replace kg := Lib.hid (kg.out.kept hdd); replace kl := Lib.hid (kl.out.kept hdd); replace ks := Lib.hid (ks.out.kept hdd); replace kW := Lib.hid (kW.out.kept hdd); replace kS := Lib.hid (kS.out.kept hdd); replace kT := Lib.hid (kT.out.kept hdd); replace hk2 := hk2.trans (hdd.mono hk2.size); clear hdd)
                  | (go_at_call 34; refine (HIH.out ra rc _ HZ4.out hrf hrc hrm kW.out kS.out kT.out).mono ?_; rintro e wq ⟨a5, cap5, rfl, sl5, l5, m5, hdd⟩; have HO := Lib.hid sl5; clear sl5; replace kg := Lib.hid (kg.out.kept hdd); replace kl := Lib.hid (kl.out.kept hdd); replace ks := Lib.hid (ks.out.kept hdd); replace kW := Lib.hid (kW.out.kept hdd); replace kS := Lib.hid (kS.out.kept hdd); replace hk2 := hk2.trans (hdd.mono hk2.size); clear hdd)))
              all_goals
                replace hb3 := hb3.trans (hk2.mono hb3.size)
                clear hk2 kg kl ks kW kS kT HIH HZ4 HPUT
                cases ho : K x r with
                | none =>
                  have HN : Hid (chk C S ws (f + 1) gs.data.toList ((i : Int) :: ps) = none) := Lib.hid (by rw [HCC.out, HST.out, ho])
                  rw [ho] at HO l5
                  simp only [Option.getD_none, Option.isSome_none, List.length_nil]
                  clear ho HO l5 HCC HST
                  go_wp2
                  go_ret2
                  exact ⟨none, 0, by rw [HN.out]; rfl, by rw [HN.out]; exact .inl rfl, by rw [HN.out]; exact Nat.zero_le _, by omega, hb.trans (hb3.mono hb.size)⟩
                | some r2 =>
                  have HN : Hid (chk C S ws (f + 1) gs.data.toList ((i : Int) :: ps) = chain K (cs.drop (k + 1)) r2) := Lib.hid (by rw [HCC.out, HST.out, ho])
                  have hr2 : r2.length ≤ f := by
                    have h := ho
                    rw [← HKX.out] at h
                    have := chk_len h
                    omega
                  rw [ho] at HO l5
                  simp only [Option.getD_some, Option.isSome_some]
                  simp only [Option.getD_some] at HO l5
                  clear ho HCC HST
                  go_wp2
                  go_roundw
                  case rel => exact ⟨k + 1, r2, a5, cap5, by omega, by go_num, rfl, hr2, l5, m5, HN, HO, hb3⟩
                  case measure => simp [intOf]; omega
            · obtain rfl : k = cs.length := by omega
              have HN : Hid (chk C S ws (f + 1) gs.data.toList ((i : Int) :: ps) = some r) := Lib.hid (by rw [HCC.out]; exact chain_end (Nat.le_refl _) r)
              go_wp2
              go_ret2
              exact ⟨ra, rc, by rw [HN.out]; rfl, by rw [HN.out]; exact HT.out, by rw [HN.out]; exact hrc, hrm, hb.trans (hb3.mono hb.size)⟩
end Go.Proofs.Ytjknpmdmchlfcaa
